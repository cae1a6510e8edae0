/- Lemmas of Cla. Conditions stand in each. -/
import Derived.Test.YtaoichlepfiliaaGreatDoorQWMdC
import Derived.Test.YtaoichlepfiliaaGreatDoorQWMdq
import Derived.Test.YtaoichlepfiliaaGreatDoorQWMdu
import Derived.Test.YtaoichlepfiliaaGreatDoorQWMcm
import Derived.Test.YtaoichlepfiliaaGreatDoorQWRfj
import Derived.Test.YtaoichlepfiliaaGreatDoorQWMcb
import Derived.Test.YtaoichlepfiliaaGreatDoorProg
import Derived.Shelf.SlSortCmp.NoneTotal
set_option linter.unusedSimpArgs false
set_option linter.unusedVariables false
section
namespace Go.Proofs.YtaoichlepfiliaaGreatDoor.Msh
open Go.RowKit Go.Proofs.YtaoichlepfiliaaGreatDoor.Mp Go.Proofs.YtaoichlepfiliaaGreatDoor.Adm
def sumF {α : Type} (f : α → Int) : List α → Int
 | [] => 0
 | x :: l => f x + sumF f l
theorem sumF_app {α : Type} (f : α → Int) : ∀ (a b : List α), sumF f (a ++ b) = sumF f a + sumF f b
 | [], b => by simp [sumF]
 | x :: a, b => by rw [List.cons_append]; simp only [sumF]; rw [sumF_app f a b]; omega
theorem sumF_same {α : Type} (f : α → Int) : ∀ (a b : List α), a.Nodup → b.Nodup → (∀ x, x ∈ a ↔ x ∈ b) → sumF f a = sumF f b
 | [], [], _, _, _ => rfl
 | [], y :: b, _, _, h => absurd ((h y).mpr (by simp)) (by simp)
 | x :: a, b, ha, hb, h => by
  obtain ⟨b1, b2, rfl⟩ := List.append_of_mem ((h x).mp (by simp))
  obtain ⟨hx, ha2⟩ := List.nodup_cons.mp ha
  have hb3 : (x :: (b1 ++ b2)).Nodup := List.perm_middle.nodup_iff.mp hb
  obtain ⟨hx2, hb2⟩ := List.nodup_cons.mp hb3
  have := sumF_same f a (b1 ++ b2) ha2 hb2 fun y => by
   have hy := h y
   simp only [List.mem_cons, List.mem_append] at hy hx2 ⊢
   constructor
   ·intro k
    have hne : y ≠ x := fun e => hx (e ▸ k)
    rcases hy.mp (.inr k) with q | q | q
    ·exact .inl q
    ·exact absurd q hne
    ·exact .inr q
   ·intro k
    have hne : y ≠ x := fun e => hx2 (e ▸ k)
    rcases hy.mpr (by rcases k with q | q <;> simp [q]) with q | q
    ·exact absurd q hne
    ·exact q
  rw [sumF_app] at this ⊢
  simp only [sumF] at this ⊢
  omega
theorem sumF_neg {α : Type} (f : α → Int) : ∀ l : List α, sumF (fun x => - f x) l = - sumF f l
 | [] => rfl
 | x :: l => by simp only [sumF]; rw [sumF_neg f l]; omega
theorem sumF_map {α β : Type} (f : β → Int) (g : α → β) : ∀ l : List α, sumF f (l.map g) = sumF (fun x => f (g x)) l
 | [] => rfl
 | x :: l => by rw [List.map_cons]; simp only [sumF]; rw [sumF_map f g l]
theorem sumF_congr {α : Type} {f g : α → Int} : ∀ {l : List α}, (∀ x ∈ l, f x = g x) → sumF f l = sumF g l
 | [], _ => rfl
 | x :: l, h => by simp only [sumF]; rw [h x (by simp), sumF_congr fun y hy => h y (by simp [hy])]
theorem sumF_pos {α : Type} {f : α → Int} : ∀ {l : List α}, (∀ x ∈ l, 0 < f x) → l ≠ [] → 0 < sumF f l
 | [x], h, _ => by simp only [sumF]; have := h x (by simp); omega
 | x :: y :: l, h, _ => by
  have h1 := h x (by simp)
  have h2 := sumF_pos (l := y :: l) (fun z hz => h z (by simp [hz])) (by simp)
  simp only [sumF] at h2 ⊢
  omega
def eds (t : Tr) : List (Int × Int) := [(t.1, t.2.1), (t.2.1, t.2.2), (t.2.2, t.1)]
theorem eds_own {t : Tr} {a b : Int} (h : (a, b) ∈ eds t) : ∃ c, own (a, b, c) = own (t.1, t.2.1, t.2.2) ∨ ¬ Ds t := by
 by_cases hd : Ds t
 ·obtain ⟨x, y, z⟩ := t
  simp only [eds, List.mem_cons, Prod.mk.injEq, List.not_mem_nil, or_false] at h
  rcases h with ⟨rfl, rfl⟩ | ⟨rfl, rfl⟩ | ⟨rfl, rfl⟩
  ·exact ⟨_, .inl rfl⟩
  ·exact ⟨x, .inl (own_rot (t := (x, a, b)) hd)⟩
  ·exact ⟨y, .inl ((own_rot (t := rot (b, y, a)) (ds_rot hd)).trans (own_rot (t := (b, y, a)) hd))⟩
 ·exact ⟨0, .inr hd⟩
theorem Mesh.ed_has {O : List Tr} (m : Mesh O) {t : Tr} (ht : t ∈ O) {a b : Int} (h : (a, b) ∈ eds t) : ∃ c, own (a, b, c) = t ∧ Has O a b c := by
 obtain ⟨c, k | k⟩ := eds_own h
 ·have e : own (a, b, c) = t := by rw [k]; exact own_of_lo (m.lo t ht)
  exact ⟨c, e, by unfold Has; rw [e]; exact ht⟩
 ·exact absurd (m.ds t ht) k
theorem Mesh.ed_one {O : List Tr} (m : Mesh O) {s t : Tr} (hs : s ∈ O) (ht : t ∈ O) {a b : Int} (h : (a, b) ∈ eds s) (k : (a, b) ∈ eds t) : s = t := by
 obtain ⟨c, e1, h1⟩ := m.ed_has hs h
 obtain ⟨d, e2, h2⟩ := m.ed_has ht k
 rw [← e1, ← e2, m.one a b c d h1 h2]
theorem Mesh.ed_nodup {O : List Tr} (m : Mesh O) : ∀ {p : List Tr}, (∀ t ∈ p, t ∈ O) → p.Nodup → (p.flatMap eds).Nodup
 | [], _, _ => by simp
 | t :: p, h, hn => by
  obtain ⟨h1, h2⟩ := List.nodup_cons.mp hn
  rw [List.flatMap_cons, List.nodup_append]
  refine ⟨?_, m.ed_nodup (fun s hs => h s (by simp [hs])) h2, fun x hx y hy e => ?_⟩
  ·have := m.ds t (h t (by simp))
   unfold Ds at this
   simp only [eds, List.nodup_cons, List.mem_cons, Prod.mk.injEq, List.not_mem_nil, or_false, not_or, List.nodup_nil, and_true, not_false_eq_true]
   omega
  ·subst e
   obtain ⟨s, hs, hx2⟩ := List.mem_flatMap.mp hy
   have := m.ed_one (h t (by simp)) (h s (by simp [hs])) (a := x.1) (b := x.2) hx hx2
   subst this
   exact h1 hs
theorem Mesh.not_closed {O : List Tr} (m : Mesh O) (P : Int → Geo.Pt) {p : List Tr} (hp : ∀ t ∈ p, t ∈ O) (hn : p.Nodup) (hne : p ≠ []) (hpos : ∀ t ∈ p, 0 < Geo.det (P t.1) (P t.2.1) (P t.2.2)) : ∃ t ∈ p, ∃ e ∈ eds t, ∀ s ∈ p, (e.2, e.1) ∉ eds s := by
 refine Classical.byContradiction fun hcon => ?_
 have hcl : ∀ t ∈ p, ∀ e ∈ eds t, ∃ s ∈ p, (e.2, e.1) ∈ eds s := fun t ht e he => Classical.byContradiction fun q => hcon ⟨t, ht, e, he, fun s hs k => q ⟨s, hs, k⟩⟩
 let cr : Int × Int → Int := fun e => (P e.1).1 * (P e.2).2 - (P e.1).2 * (P e.2).1
 have hsw : (p.flatMap eds).map Prod.swap = (p.flatMap eds).map Prod.swap := rfl
 have hN := m.ed_nodup hp hn
 have h1 : sumF cr ((p.flatMap eds).map Prod.swap) = sumF cr (p.flatMap eds) := by
  refine sumF_same cr _ _ ?_ hN fun e => ?_
  ·rw [List.Nodup, List.pairwise_map]
   exact hN.imp fun {a b} h e => h (by have := congrArg Prod.swap e; simpa using this)
  ·constructor
   ·intro k
    obtain ⟨d, hd, rfl⟩ := List.mem_map.mp k
    obtain ⟨t, ht, hdt⟩ := List.mem_flatMap.mp hd
    obtain ⟨s, hs, hx⟩ := hcl t ht d hdt
    exact List.mem_flatMap.mpr ⟨s, hs, hx⟩
   ·intro k
    obtain ⟨t, ht, hdt⟩ := List.mem_flatMap.mp k
    obtain ⟨s, hs, hx⟩ := hcl t ht e hdt
    exact List.mem_map.mpr ⟨(e.2, e.1), List.mem_flatMap.mpr ⟨s, hs, hx⟩, rfl⟩
 have h2 : sumF cr ((p.flatMap eds).map Prod.swap) = - sumF cr (p.flatMap eds) := by
  rw [sumF_map, ← sumF_neg]
  exact sumF_congr fun x _ => by
   show (P x.2).1 * (P x.1).2 - (P x.2).2 * (P x.1).1 = -((P x.1).1 * (P x.2).2 - (P x.1).2 * (P x.2).1)
   rw [Int.mul_comm (P x.2).1, Int.mul_comm (P x.2).2]
   omega
 have h3 : ∀ q : List Tr, sumF cr (q.flatMap eds) = sumF (fun t => Geo.det (P t.1) (P t.2.1) (P t.2.2)) q := fun q => by
  induction q with
  | nil => rfl
  | cons t q ih =>
   rw [List.flatMap_cons, sumF_app, ih]
   simp only [sumF, eds]
   have : cr (t.1, t.2.1) + (cr (t.2.1, t.2.2) + (cr (t.2.2, t.1) + 0)) = Geo.det (P t.1) (P t.2.1) (P t.2.2) := by
    simp only [cr, Geo.det]
    grind
   rw [this]
 have h4 := sumF_pos hpos hne
 rw [← h3] at h4
 omega
theorem ed_own (a b c : Int) : (a, b) ∈ eds (own (a, b, c)) := by
 rcases own_cases (a, b, c) with h | h | h <;> rw [h] <;> simp [eds, rot]
theorem part_open {l : List S} {O : List Tr} {L : List (List Tr)} (m : Mesh O) (hs : ∀ t ∈ O, 0 < sgT l t) (hL : IsParts (Fixd []) O L) {p : List Tr} (hp : p ∈ L) : p.any (openB O []) = true := by
 obtain ⟨t, ht, e, he, hno⟩ := m.not_closed (fun i => pt (ptO l i)) (fun t ht => (hL.part p hp t ht).1) (up_nodup (hL.up p hp)) (hL.ne p hp) (fun t ht => by
  have := hs t (hL.part p hp t ht).1
  unfold sgT sgnS at this
  exact Int.sign_pos_iff.mp this)
 have hO := (hL.part p hp t ht).1
 have hb : behind O e.2 e.1 = none := by
  rw [m.apx_none]
  intro c hc
  obtain ⟨c', e1, h1⟩ := m.ed_has hO (a := e.1) (b := e.2) he
  have hn : Nb (Fixd []) t (own (e.2, e.1, c)) := ⟨e.1, e.2, c', c, e1, rfl, by simp [Fixd]⟩
  exact hno _ (((hL.part p hp t ht).2 _).mpr (.step (.refl _) hc hn)) (ed_own _ _ _)
 refine List.any_eq_true.mpr ⟨t, ht, ?_⟩
 have ho : edgeOpen O [] e.1 e.2 = true := by unfold edgeOpen; rw [hb]; rfl
 unfold openB
 simp only [eds, List.mem_cons, List.not_mem_nil, or_false] at he
 rcases he with rfl | rfl | rfl <;> simp_all
theorem filter_all {α : Type} {p : α → Bool} : ∀ {l : List α}, (∀ x ∈ l, p x = true) → l.filter p = l := fun h => List.filter_eq_self.mpr h
theorem outer_all {l : List S} {O : List Tr} {L : List (List Tr)} (m : Mesh O) (hs : ∀ t ∈ O, 0 < sgT l t) (hL : IsParts (Fixd []) O L) : (L.filter fun p => p.any (openB O [])).flatten.length = O.length ∧ (O.filter fun t => decide (t ∉ (L.filter fun p => p.any (openB O [])).flatten)) = [] := by
 have h1 : (L.filter fun p => p.any (openB O [])) = L := filter_all fun p hp => part_open m hs hL hp
 have hm : ∀ t, t ∈ L.flatten ↔ t ∈ O := fun t => by
  have h3 := hL.of_kind (fun _ => true) (t := t)
  have e2 : L.filter (fun _ => true) = L := List.filter_eq_self.mpr fun _ _ => rfl
  have e3 : L.filter (fun p => !(fun _ : List Tr => true) p) = [] := List.filter_eq_nil_iff.mpr fun _ _ => by simp
  rw [e2, e3] at h3
  rw [h3]
  simp
 have hn : L.flatten.Nodup := by
  have := hL.flat_nodup (fun _ => true)
  rwa [List.filter_eq_self.mpr (fun _ _ => rfl)] at this
 rw [h1]
 refine ⟨?_, ?_⟩
 ·exact Nat.le_antisymm (nodup_size _ _ hn fun x hx => (hm x).mp hx) (nodup_size _ _ (up_nodup m.up) fun x hx => (hm x).mpr hx)
 ·rw [List.filter_eq_nil_iff]
  intro t ht
  simp [(hm t).mpr ht]
theorem sgT_rot (l : List S) (t : Tr) : sgT l (rot t) = sgT l t := by
 unfold sgT sgnS rot
 simp only
 congr 1
 simp only [Geo.det]
 grind
theorem sgT_own (l : List S) (t : Tr) : sgT l (own t) = sgT l t := by
 rcases own_cases t with h | h | h <;> rw [h]
 ·exact sgT_rot l t
 ·rw [sgT_rot, sgT_rot]
theorem both_pos (l : List S) (Ts : List Tr) : ∀ t ∈ bothO l Ts, 0 < sgT l t := by
 have : ∀ (Ts O : List Tr), (∀ t ∈ O, 0 < sgT l t) → ∀ t ∈ Ts.foldl (makeO l) O, 0 < sgT l t := fun Ts => by
  induction Ts with
  | nil => intro O h; exact h
  | cons s Ts ih =>
   intro O h
   refine ih _ fun t ht => ?_
   unfold makeO at ht
   split at ht
   ·rename_i h0
    rcases put_mem.mp ht with rfl | q
    ·rw [sgT_own]; exact (makeE_zero h0).2.2.2.1
    ·exact h t q
   ·exact h t ht
 exact this Ts [] (fun t ht => by cases ht)
theorem near_of {O F : List Tr} (m : Mesh O) (hu : Up2 F) {t : Tr} (ht : t ∈ O) {a b c : Int} (he : (a, b) ∈ eds t) (hb : behind O b a = some c) (hf : (fixO F a b).isSome = false) : own (b, a, c) ∈ O ∧ Nb (Fixd F) t (own (b, a, c)) := by
 obtain ⟨d, e1, -⟩ := m.ed_has ht he
 exact ⟨m.apx.mp hb, a, b, d, c, e1, rfl, fun q => by rw [(fixO_fixd hu).mpr q] at hf; cases hf⟩
end Go.Proofs.YtaoichlepfiliaaGreatDoor.Msh
end
section
namespace Go.Proofs.YtaoichlepfiliaaGreatDoor.Msh
open Go.RowKit Go.Sort Go.ChangeMaps Go.MapKept Go.Proofs.YtaoichlepfiliaaGreatDoor.Mp Go.Proofs.YtaoichlepfiliaaGreatDoor.Adm Go.Proofs.YtaoichlepfiliaaGreatDoor.Kfl Go.Proofs.YtaoichlepfiliaaGreatDoor.R Go.Proofs.YtaoichlepfiliaaGreatDoor.E Go.Proofs.YtaoichlepfiliaaGreatDoorW.PrintWords Go.Proofs.YtaoichlepfiliaaGreatDoorW.PrintLast
def Wh (L : List (List Tr)) (gs : Tr → Option Value) (i j : Nat) : Prop := (∀ a, a < i → ∀ t ∈ L.getD a [], gs t = some (.int .i64 a)) ∧ ∀ t ∈ (L.getD i []).take j, gs t = some (.int .i64 i)
theorem getD_in {L : List (List Tr)} {a : Nat} (h : a < L.length) : L.getD a [] = L[a] := by rw [List.getD_eq_getElem?_getD, List.getElem?_eq_getElem h]; rfl
theorem wh_start (L : List (List Tr)) : Wh L (fun _ => none) 0 0 := ⟨fun a ha => absurd ha (Nat.not_lt_zero _), fun t ht => by simp at ht⟩
theorem wh_set {fx : Int → Int → Prop} {O : List Tr} {L : List (List Tr)} (hL : IsParts fx O L) {gs : Tr → Option Value} {i j : Nat} (hi : i < L.length) (hj : j < L[i].length) (h : Wh L gs i j) : Wh L (upd gs L[i][j] (some (.int .i64 i))) i (j + 1) := by
 refine ⟨fun a ha t ht => ?_, fun t ht => ?_⟩
 ·have ha2 : a < L.length := by omega
  rw [getD_in ha2] at ht
  have hne : t ≠ L[i][j] := fun e => by
   exact List.pairwise_iff_getElem.mp hL.nodup a i ha2 hi ha (hL.apart (List.getElem_mem ha2) (List.getElem_mem hi) ht (by rw [e]; exact List.getElem_mem hj))
  unfold upd
  rw [if_neg hne]
  exact h.1 a ha t (by rw [getD_in ha2]; exact ht)
 ·rw [getD_in hi, List.take_succ_eq_append_getElem hj] at ht
  unfold upd
  by_cases e : t = L[i][j]
  ·rw [if_pos e]
  ·rw [if_neg e]
   rcases List.mem_append.mp ht with q | q
   ·exact h.2 t (by rw [getD_in hi]; exact q)
   ·exact absurd (List.mem_singleton.mp q) e
theorem wh_next {L : List (List Tr)} {gs : Tr → Option Value} {i : Nat} (hi : i < L.length) (h : Wh L gs i L[i].length) : Wh L gs (i + 1) 0 := by
 refine ⟨fun a ha t ht => ?_, fun t ht => by simp at ht⟩
 rcases Nat.lt_or_eq_of_le (Nat.le_of_lt_succ ha) with q | q
 ·exact h.1 a q t ht
 ·subst q
  exact h.2 t (by rw [getD_in hi] at ht ⊢; rw [List.take_length]; exact ht)
def allW (L : List (List Tr)) (i j : Nat) : List Tr := (L.take i).flatten ++ (L.getD i []).take j
theorem allW_set {L : List (List Tr)} {i j : Nat} (hi : i < L.length) (hj : j < L[i].length) : allW L i (j + 1) = allW L i j ++ [L[i][j]] := by
 unfold allW
 rw [getD_in hi, List.take_succ_eq_append_getElem hj, List.append_assoc]
theorem allW_next {L : List (List Tr)} {i : Nat} (hi : i < L.length) : allW L i L[i].length = allW L (i + 1) 0 := by
 unfold allW
 rw [getD_in hi, List.take_length, List.take_succ_eq_append_getElem hi, List.flatten_append]
 simp
theorem allW_end (L : List (List Tr)) : allW L L.length 0 = L.flatten := by
 unfold allW
 simp
theorem allW_le (L : List (List Tr)) (i j : Nat) : (allW L i j).length ≤ L.flatten.length := by
 have h : ∀ (L : List (List Tr)) (i : Nat), ((L.take i).flatten ++ L.getD i []).length ≤ L.flatten.length := fun L => by
  induction L with
  | nil => intro i; simp
  | cons p L ih =>
   intro i
   cases i with
   | zero => simp
   | succ i => have := ih i; simp only [List.take_succ_cons, List.flatten_cons, List.getD_cons_succ, List.length_append] at this ⊢; omega
 have h1 := h L i
 unfold allW
 simp only [List.length_append, List.length_take] at h1 ⊢
 omega
theorem parts_all {fx : Int → Int → Prop} {O : List Tr} {L : List (List Tr)} (m : Mesh O) (hL : IsParts fx O L) : L.flatten.Nodup ∧ (∀ t, t ∈ L.flatten ↔ t ∈ O) ∧ tris L.flatten = O ∧ L.flatten.length = O.length := by
 have e2 : L.filter (fun _ => true) = L := List.filter_eq_self.mpr fun _ _ => rfl
 have hm : ∀ t, t ∈ L.flatten ↔ t ∈ O := fun t => by
  have h3 := hL.of_kind (fun _ => true) (t := t)
  have e3 : L.filter (fun p => !(fun _ : List Tr => true) p) = [] := List.filter_eq_nil_iff.mpr fun _ _ => by simp
  rw [e2, e3] at h3
  rw [h3]
  simp
 have hn : L.flatten.Nodup := by
  have := hL.flat_nodup (fun _ => true)
  rwa [e2] at this
 have ho : L.flatten.map own = L.flatten := by
  rw [List.map_congr_left (fun t ht => own_of_lo (m.lo t ((hm t).mp ht))), List.map_id']
 have hn2 : (L.flatten.map own).Nodup := by rw [ho]; exact hn
 refine ⟨hn, hm, up_eq (tris_up hn2) m.up fun x => by rw [tris_mem hn2, ho, hm], ?_⟩
 exact Nat.le_antisymm (nodup_size _ _ hn fun x hx => (hm x).mp hx) (nodup_size _ _ (up_nodup m.up) fun x hx => (hm x).mpr hx)
theorem wh_near {fx : Int → Int → Prop} {O : List Tr} {L : List (List Tr)} (hL : IsParts fx O L) {gs : Tr → Option Value} (h : Wh L gs L.length 0) {s t : Tr} (hs : s ∈ O) (ht : t ∈ O) (hn : Nb fx s t) : ∃ a : Nat, gs s = some (.int .i64 a) ∧ gs t = some (.int .i64 a) := by
 obtain ⟨p, hp, hsp⟩ := hL.all s hs
 obtain ⟨a, ha, rfl⟩ := List.getElem_of_mem hp
 have htp : t ∈ L[a] := ((hL.part _ hp s hsp).2 t).mpr (.step (.refl _) ht hn)
 exact ⟨a, h.1 a ha s (by rw [getD_in ha]; exact hsp), h.1 a ha t (by rw [getD_in ha]; exact htp)⟩
structure Wt (W6 wr : World) (sb : Nat) (gs : Tr → Option Value) (v8 : Value) (al : List Tr) : Prop where
 b : Below W6.heap.size W6 wr
 map : MapF encT okT wr sb gs
 row : kTr.R 53 wr W6.heap.size anyB v8 al
 ge : W6.heap.size ≤ sb
section
variable {W6 wr W : World} {sb : Nat} {gs gs1 : Tr → Option Value} {v8 v1 : Value} {al al1 : List Tr}
theorem Wt.below (h : Wt W6 wr sb gs v8 al) (hb : Below wr.heap.size wr W) : Wt W6 W sb gs v8 al := ⟨h.b.trans (hb.mono h.b.size), h.map.below hb, Kd.R_below h.row hb, h.ge⟩
theorem Wt.set (h : Wt W6 wr sb gs v8 al) {o : Obj} (hm : MapF encT okT (setBlock wr sb o) sb gs1) : Wt W6 (setBlock wr sb o) sb gs1 v8 al := by
 have hf : Fr (· = sb) wr (setBlock wr sb o) := ⟨rfl, rfl, rfl, by simp [setBlock], fun k _ hne => other_block hne o⟩
 exact ⟨h.b.trans (below_block h.ge o), hm, tr_fr h.row h.map hf, h.ge⟩
theorem Wt.grow (h : Wt W6 wr sb gs v8 al) (hR : kTr.R 53 W W6.heap.size anyB v1 al1) (hg : wr.grownBy W v8.ownBlock) : Wt W6 W sb gs v1 al1 := by
 refine ⟨h.b.trans (grown_below hg (fun q hq => ((flat_lrow flatT h.row).lt q hq).1) h.b.size), ?_, hR, h.ge⟩
 obtain ⟨es, clock, hb, hF⟩ := h.map
 exact ⟨es, clock, row_keeps h.row hg hb (by intros; simp), hF⟩
end
end Go.Proofs.YtaoichlepfiliaaGreatDoor.Msh
end
section
namespace Go.Proofs.YtaoichlepfiliaaGreatDoor.Msh
open Go.RowKit Go.Sort Go.Proofs.YtaoichlepfiliaaGreatDoor.Adm Go.Proofs.YtaoichlepfiliaaGreatDoorW.PrintWords Go.Proofs.YtaoichlepfiliaaGreatDoorW.PrintLast
set_option maxHeartbeats 1000000 in
theorem segsKey_call (x : Tr) (w : World) : Calls Tryz.prog 51 #[encT x] w fun e w' => e = .returned (.agg #[.int .i64 x.1, .int .i64 x.2.1, .int .i64 0]) ∧ Gr w w' := by
 unfold encT
 have hG := Gr.refl w
 go_enter Tryz.func51, Tryz.ntmps51
 go_wp2
 refine bodyPost_ret (v := .agg #[.int .i64 x.1, .int .i64 x.2.1, .int .i64 0]) ?_ rfl ⟨rfl, ?_⟩
 ·simp [results, Tryz.results51, go_sem]
 ·exact (by (with_reducible (repeat (first | assumption | apply Gr.drew | apply Gr.alloc | apply Gr.drewN | apply gr_set))) <;> (simp))
set_option maxRecDepth 100000 in
set_option maxHeartbeats 16000000 in
theorem sortSegs_call (kb : Nat) (x y : Tr) (w : World) (hk : w.cell? ⟨kb, 0, none⟩ = some (.func (.func 51) #[] #[])) :
 Calls Tryz.prog 85 #[encT x, encT y, .pointer (some ⟨kb, 0, none⟩)] w fun e w' => e = .returned (.int .i64 (cmp3 (x.1, x.2.1, 0) (y.1, y.2.1, 0))) ∧ Gr w w' := by
 have hkey := fun x w => segsKey_call x w
 have hcm := fun B C w => compare3_call B C (x.1, x.2.1, 0) (y.1, y.2.1, 0) w
 generalize cmp3 (x.1, x.2.1, 0) (y.1, y.2.1, 0) = r at *
 obtain ⟨x0, x1, x2⟩ := x
 obtain ⟨y0, y1, y2⟩ := y
 have hkx := hkey (x0, x1, x2)
 have hky := hkey (y0, y1, y2)
 unfold encT at hkx hky ⊢
 simp only at hkx hky hcm ⊢
 clear hkey
 go_enter Tryz.func85, Tryz.ntmps85
 go_upto_region 1 with (fail)
 go_cut [6, 7] (fun v6 v7 wc => ∃ g1 g2 : Nat, v6 = .pointer (some ⟨g1, 0, none⟩) ∧ v7 = .pointer (some ⟨g2, 0, none⟩) ∧ (wc.cell? ⟨g1, 0, none⟩ = some (.int .i64 x0) ∧ wc.cell? ⟨g1, 1, none⟩ = some (.int .i64 x1) ∧ wc.cell? ⟨g1, 2, none⟩ = some (.int .i64 0) ∧ wc.cell? ⟨g2, 0, none⟩ = some (.int .i64 y0) ∧ wc.cell? ⟨g2, 1, none⟩ = some (.int .i64 y1) ∧ wc.cell? ⟨g2, 2, none⟩ = some (.int .i64 0)) ∧ Gr w wc)
 case first =>
  obtain ⟨W1, hW1⟩ : ∃ W1, W1 = (w.alloc (.cells #[.int .i64 x0, .int .i64 x1, .int .i64 x2] 78)).alloc (.cells #[.int .i64 y0, .int .i64 y1, .int .i64 y2] 78) := ⟨_, rfl⟩
  have hG : Gr w W1 := by rw [hW1]; exact ((Gr.refl w).alloc _).alloc _
  have hS : W1.cell? ⟨kb, 0, none⟩ = some (.func (.func 51) #[] #[]) ∧ W1.cell? ⟨w.heap.size, 0, none⟩ = some (.int .i64 x0) ∧ W1.cell? ⟨w.heap.size, 1, none⟩ = some (.int .i64 x1) ∧ W1.cell? ⟨w.heap.size, 2, none⟩ = some (.int .i64 x2) ∧ W1.cell? ⟨w.heap.size + 1, 0, none⟩ = some (.int .i64 y0) ∧ W1.cell? ⟨w.heap.size + 1, 1, none⟩ = some (.int .i64 y1) ∧ W1.cell? ⟨w.heap.size + 1, 2, none⟩ = some (.int .i64 y2) := by
   refine ⟨hG.cell hk, ?_⟩
   rw [hW1]
   simp
  have hsz : W1.heap.size = w.heap.size + 2 := by rw [hW1]; simp
  have HSZ := Aside0.mk hsz
  have h0 := Gr.refl W1
  rw [← hW1]
  clear hW1 hk hsz
  go_region_held3 (fun W' => W'.cell? ⟨kb, 0, none⟩ = some (.func (.func 51) #[] #[]) ∧ W'.cell? ⟨w.heap.size, 0, none⟩ = some (.int .i64 x0) ∧ W'.cell? ⟨w.heap.size, 1, none⟩ = some (.int .i64 x1) ∧ W'.cell? ⟨w.heap.size, 2, none⟩ = some (.int .i64 x2) ∧ W'.cell? ⟨w.heap.size + 1, 0, none⟩ = some (.int .i64 y0) ∧ W'.cell? ⟨w.heap.size + 1, 1, none⟩ = some (.int .i64 y1) ∧ W'.cell? ⟨w.heap.size + 1, 2, none⟩ = some (.int .i64 y2))
   (first | (with_reducible exact hS) | (with_reducible refine six_gr ?_ hS; (with_reducible (repeat (first | assumption | apply Gr.drew | apply Gr.alloc | apply Gr.drewN | apply gr_set))) <;> (dsimp only; omega)) | (with_reducible refine six_gr ?_ hS; (with_reducible (repeat (first | assumption | apply Gr.drew | apply Gr.alloc | apply Gr.drewN)))))
   (first
    | (go_at_call 51; (with_reducible refine (hkx _).mono ?_); rintro u_ w5 ⟨rfl, hg⟩; ((try (replace h61 := gr_mv h61 (by (with_reducible (repeat (first | exact Gr.refl _ | apply Gr.drew | apply Gr.alloc | apply Gr.drewN)))) hg; obtain ⟨q60, q61, q62, q63, q64, q65, q66⟩ := three_cells h61)); (try (replace h62 := gr_mv h62 (by (with_reducible (repeat (first | exact Gr.refl _ | apply Gr.drew | apply Gr.alloc | apply Gr.drewN)))) hg; obtain ⟨r60, r61, r62, r63, r64, r65, r66⟩ := three_cells h62))); (first | ((with_reducible have hz := bx2 (w0 := W1) (by (with_reducible (repeat (first | assumption | apply Gr.drew | apply Gr.alloc | apply Gr.drewN)))) hg); obtain ⟨h51, h52, z51, z52⟩ := hz; obtain ⟨q50, q51, q52, q53, q54, q55, q56⟩ := three_cells h51; obtain ⟨r50, r51, r52, r53, r54, r55, r56⟩ := three_cells h52) | ((with_reducible have hz := bx2d (w0 := W1) (by (with_reducible (repeat (first | assumption | apply Gr.drew | apply Gr.alloc | apply Gr.drewN)))) hg); obtain ⟨h51, h52, z51, z52⟩ := hz; obtain ⟨q50, q51, q52, q53, q54, q55, q56⟩ := three_cells h51; obtain ⟨r50, r51, r52, r53, r54, r55, r56⟩ := three_cells h52) | ((with_reducible have hz := bx1 (w0 := W1) (by (with_reducible (repeat (first | assumption | apply Gr.drew | apply Gr.alloc | apply Gr.drewN)))) hg); obtain ⟨h51, z51, z52⟩ := hz; obtain ⟨q50, q51, q52, q53, q54, q55, q56⟩ := three_cells h51) | ((with_reducible have hz := bx1d (w0 := W1) (by (with_reducible (repeat (first | assumption | apply Gr.drew | apply Gr.alloc | apply Gr.drewN)))) hg); obtain ⟨h51, z51, z52⟩ := hz; obtain ⟨q50, q51, q52, q53, q54, q55, q56⟩ := three_cells h51) | skip); have hG5 := gr_step (w := W1) (by (with_reducible (repeat (first | assumption | apply Gr.drew | apply Gr.alloc | apply Gr.drewN)))) hg; have s5 := hG5.below.size; clear hg)
    | (go_at_call 51; (with_reducible refine (hky _).mono ?_); rintro u_ w6 ⟨rfl, hg⟩; ((try (replace h51 := gr_mv h51 (by (with_reducible (repeat (first | exact Gr.refl _ | apply Gr.drew | apply Gr.alloc | apply Gr.drewN)))) hg; obtain ⟨q50, q51, q52, q53, q54, q55, q56⟩ := three_cells h51)); (try (replace h52 := gr_mv h52 (by (with_reducible (repeat (first | exact Gr.refl _ | apply Gr.drew | apply Gr.alloc | apply Gr.drewN)))) hg; obtain ⟨r50, r51, r52, r53, r54, r55, r56⟩ := three_cells h52))); (first | ((with_reducible have hz := bx2 (w0 := W1) (by (with_reducible (repeat (first | assumption | apply Gr.drew | apply Gr.alloc | apply Gr.drewN)))) hg); obtain ⟨h61, h62, z61, z62⟩ := hz; obtain ⟨q60, q61, q62, q63, q64, q65, q66⟩ := three_cells h61; obtain ⟨r60, r61, r62, r63, r64, r65, r66⟩ := three_cells h62) | ((with_reducible have hz := bx2d (w0 := W1) (by (with_reducible (repeat (first | assumption | apply Gr.drew | apply Gr.alloc | apply Gr.drewN)))) hg); obtain ⟨h61, h62, z61, z62⟩ := hz; obtain ⟨q60, q61, q62, q63, q64, q65, q66⟩ := three_cells h61; obtain ⟨r60, r61, r62, r63, r64, r65, r66⟩ := three_cells h62) | ((with_reducible have hz := bx1 (w0 := W1) (by (with_reducible (repeat (first | assumption | apply Gr.drew | apply Gr.alloc | apply Gr.drewN)))) hg); obtain ⟨h61, z61, z62⟩ := hz; obtain ⟨q60, q61, q62, q63, q64, q65, q66⟩ := three_cells h61) | ((with_reducible have hz := bx1d (w0 := W1) (by (with_reducible (repeat (first | assumption | apply Gr.drew | apply Gr.alloc | apply Gr.drewN)))) hg); obtain ⟨h61, z61, z62⟩ := hz; obtain ⟨q60, q61, q62, q63, q64, q65, q66⟩ := three_cells h61) | skip); have hG6 := gr_step (w := W1) (by (with_reducible (repeat (first | assumption | apply Gr.drew | apply Gr.alloc | apply Gr.drewN)))) hg; have s6 := hG6.below.size; clear hg))
  all_goals
   go_wp2
   go_meet
   case rel => exact ⟨_, _, rfl, rfl, ⟨(by first | (simp; done) | (go_simp; done) | (simp (disch := omega) [World.cell?_setCell_ne]; done)), (by first | (simp; done) | (go_simp; done) | (simp (disch := omega) [World.cell?_setCell_ne]; done)), (by first | (simp; done) | (go_simp; done) | (simp (disch := omega) [World.cell?_setCell_ne]; done)), (by first | (simp; done) | (go_simp; done) | (simp (disch := omega) [World.cell?_setCell_ne]; done)), (by first | (simp; done) | (go_simp; done) | (simp (disch := omega) [World.cell?_setCell_ne]; done)), (by first | (simp; done) | (go_simp; done) | (simp (disch := omega) [World.cell?_setCell_ne]; done))⟩, hG.trans (by (with_reducible (repeat (first | assumption | apply Gr.drew | apply Gr.alloc | apply Gr.drewN | apply gr_set))) <;> (dsimp only; omega))⟩
 case rest =>
  obtain ⟨g1, g2, rfl, rfl, ⟨z1, z2, z3, z4, z5, z6⟩, hQ⟩ := hcut
  have hcm2 := fun W (h : Gr wc W) => hcm g1 g2 W (h.cell z1) (h.cell z2) (h.cell z3) (h.cell z4) (h.cell z5) (h.cell z6)
  clear hcm
  go_wp2
  go_region_held3 (fun _ => True) (trivial) ((go_at_call 83; (with_reducible refine (hcm2 _ (by (with_reducible (repeat (first | exact Gr.refl _ | apply Gr.drew | apply Gr.drewN))))).mono ?_); rintro u_ w7 ⟨rfl, rfl⟩))
  all_goals
   go_wp2
   go_ret
   exact ⟨rfl, (hQ.drew)⟩
end Go.Proofs.YtaoichlepfiliaaGreatDoor.Msh
end
section
namespace Go.Proofs.YtaoichlepfiliaaGreatDoor.Srs
open Go.Shelf
def sortRen : Go.Shelf.Ren := ⟨fun | 6 => 84 | 15 => 109 | 14 => 111 | 28 => 137 | 29 => 138 | 20 => 140 | 21 => 141 | 22 => 142 | 23 => 143 | 24 => 144 | 25 => 145 | 26 => 146 | 27 => 147 | 46 => 169 | 47 => 165 | 48 => 166 | 49 => 170 | 50 => 171 | 57 => 198 | n => n, fun | 22 => 24 | 24 => 78 | 25 => 122 | 3 => 3 | 39 => 143 | 0 => 0 | 53 => 170 | 55 => 139 | 4 => 4 | 46 => 164 | 45 => 163 | 50 => 54 | 5 => 5 | 9 => 9 | 66 => 186 | 70 => 190 | 76 => 208 | 77 => 209 | n => n, fun n => n⟩
theorem sortL : SlLaysF0.n6 Tryz.prog sortRen := {
 mixed := by kernel_rfl,
 f6 := ⟨Tryz.f84.name, by decide, Tryz.func84.trans (congrArg some (by kernel_rfl))⟩,
 f14 := ⟨Tryz.f111.name, by decide, Tryz.func111.trans (congrArg some (by kernel_rfl))⟩,
 f15 := Tryz.func109.trans (congrArg some (by kernel_rfl)),
 f20 := ⟨Tryz.f140.name, by decide, Tryz.func140.trans (congrArg some (by kernel_rfl))⟩,
 f21 := ⟨Tryz.f141.name, by decide, Tryz.func141.trans (congrArg some (by kernel_rfl))⟩,
 f22 := ⟨Tryz.f142.name, by decide, Tryz.func142.trans (congrArg some (by kernel_rfl))⟩,
 f23 := ⟨Tryz.f143.name, by decide, Tryz.func143.trans (congrArg some (by kernel_rfl))⟩,
 f24 := ⟨Tryz.f144.name, by decide, Tryz.func144.trans (congrArg some (by kernel_rfl))⟩,
 f25 := ⟨Tryz.f145.name, by decide, Tryz.func145.trans (congrArg some (by kernel_rfl))⟩,
 f26 := ⟨Tryz.f146.name, by decide, Tryz.func146.trans (congrArg some (by kernel_rfl))⟩,
 f27 := ⟨Tryz.f147.name, by decide, Tryz.func147.trans (congrArg some (by kernel_rfl))⟩,
 f28 := Tryz.func137.trans (congrArg some (by kernel_rfl)),
 f29 := Tryz.func138.trans (congrArg some (by kernel_rfl)),
 f46 := ⟨Tryz.f169.name, by decide, Tryz.func169.trans (congrArg some (by kernel_rfl))⟩,
 f47 := Tryz.func165.trans (congrArg some (by kernel_rfl)),
 f48 := Tryz.func166.trans (congrArg some (by kernel_rfl)),
 f49 := ⟨Tryz.f170.name, by decide, Tryz.func170.trans (congrArg some (by kernel_rfl))⟩,
 f50 := ⟨Tryz.f171.name, by decide, Tryz.func171.trans (congrArg some (by kernel_rfl))⟩,
 f57 := ⟨Tryz.f198.name, by decide, Tryz.func198.trans (congrArg some (by kernel_rfl))⟩,
 t0 := Tryz.underlying0,
 a0 := Tryz.isAgg0,
 z0 := Tryz.sizeOf0,
 v0 := Tryz.zeroValue0,
 t3 := Tryz.underlying3,
 a3 := Tryz.isAgg3,
 z3 := Tryz.sizeOf3,
 v3 := Tryz.zeroValue3,
 t4 := Tryz.underlying4,
 a4 := Tryz.isAgg4,
 z4 := Tryz.sizeOf4,
 v4 := Tryz.zeroValue4,
 t5 := Tryz.underlying5,
 a5 := Tryz.isAgg5,
 z5 := Tryz.sizeOf5,
 v5 := Tryz.zeroValue5,
 t9 := Tryz.underlying9,
 a9 := Tryz.isAgg9,
 z9 := Tryz.sizeOf9,
 v9 := Tryz.zeroValue9,
 t22 := Tryz.underlying24,
 a22 := Tryz.isAgg24,
 z22 := Tryz.sizeOf24,
 v22 := Tryz.zeroValue24,
 t25 := Tryz.underlying122,
 a25 := Tryz.isAgg122,
 z25 := Tryz.sizeOf122,
 v25 := Tryz.zeroValue122,
 t39 := Tryz.underlying143,
 a39 := Tryz.isAgg143,
 z39 := Tryz.sizeOf143,
 v39 := Tryz.zeroValue143,
 t45 := Tryz.underlying163,
 a45 := Tryz.isAgg163,
 z45 := Tryz.sizeOf163,
 v45 := Tryz.zeroValue163,
 t46 := Tryz.underlying164,
 a46 := Tryz.isAgg164,
 z46 := Tryz.sizeOf164,
 v46 := Tryz.zeroValue164,
 t50 := Tryz.underlying54,
 a50 := Tryz.isAgg54,
 z50 := Tryz.sizeOf54,
 v50 := Tryz.zeroValue54,
 t53 := Tryz.underlying170,
 a53 := Tryz.isAgg170,
 z53 := Tryz.sizeOf170,
 v53 := Tryz.zeroValue170,
 t55 := Tryz.underlying139,
 a55 := Tryz.isAgg139,
 z55 := Tryz.sizeOf139,
 v55 := Tryz.zeroValue139,
 t66 := Tryz.underlying186,
 a66 := Tryz.isAgg186,
 z66 := Tryz.sizeOf186,
 v66 := Tryz.zeroValue186,
 t70 := Tryz.underlying190,
 a70 := Tryz.isAgg190,
 z70 := Tryz.sizeOf190,
 v70 := Tryz.zeroValue190,
 t76 := Tryz.underlying208,
 a76 := Tryz.isAgg208,
 z76 := Tryz.sizeOf208,
 v76 := Tryz.zeroValue208,
 t77 := Tryz.underlying209,
 a77 := Tryz.isAgg209,
 z77 := Tryz.sizeOf209,
 v77 := Tryz.zeroValue209 }
end Go.Proofs.YtaoichlepfiliaaGreatDoor.Srs
end
