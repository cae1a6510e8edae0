/- Lemmas of Mpb. Conditions stand in each. -/
import Derived.Test.YtaoichlepfiliaaGreatDoorQXMmp
set_option linter.unusedSimpArgs false
set_option linter.unusedVariables false
section
namespace Go.Proofs.YtaoichlepfiliaaGreatDoor.Msh
def Beh (O : List Tr) (a b : Int) (y : Tr) : Prop := ∃ d, Has O b a d ∧ y = own (b, a, d)
theorem nb_iff {fx : Int → Int → Prop} {O : List Tr} (m : Mesh O) {s t : Tr} (hs : s ∈ O) (ht : t ∈ O) : Nb fx s t ↔ (Beh O s.1 s.2.1 t ∧ ¬ fx s.1 s.2.1) ∨ (Beh O s.2.1 s.2.2 t ∧ ¬ fx s.2.1 s.2.2) ∨ (Beh O s.2.2 s.1 t ∧ ¬ fx s.2.2 s.1) := by
 have hso := own_of_lo (m.lo s hs)
 have hsd := m.ds s hs
 constructor
 ·rintro ⟨a, b, c, d, h1, h2, h3⟩
  have hB : Beh O a b t := ⟨d, by unfold Has; rw [h2]; exact ht, h2.symm⟩
  have h4 : own (a, b, c) = own s := by rw [h1, hso]
  rcases rot_of_own h4 with e | e | e
  ·subst e; exact .inl ⟨hB, h3⟩
  ·have e0 : a = s.2.1 := congrArg (·.1) e
   have e1 : b = s.2.2 := congrArg (·.2.1) e
   subst e0 e1; exact .inr (.inl ⟨hB, h3⟩)
  ·have e0 : a = s.2.2 := congrArg (·.1) e
   have e1 : b = s.1 := congrArg (·.2.1) e
   subst e0 e1; exact .inr (.inr ⟨hB, h3⟩)
 ·rintro (⟨⟨d, -, h1⟩, h2⟩ | ⟨⟨d, -, h1⟩, h2⟩ | ⟨⟨d, -, h1⟩, h2⟩)
  ·exact ⟨s.1, s.2.1, s.2.2, d, hso, h1.symm, h2⟩
  ·exact ⟨s.2.1, s.2.2, s.1, d, by rw [show ((s.2.1, s.2.2, s.1) : Tr) = rot s from rfl, own_rot hsd, hso], h1.symm, h2⟩
  ·exact ⟨s.2.2, s.1, s.2.1, d, by rw [show ((s.2.2, s.1, s.2.1) : Tr) = rot (rot s) from rfl, own_rot (ds_rot hsd), own_rot hsd, hso], h1.symm, h2⟩
section
variable {fx : Int → Int → Prop} {O : List Tr}
structure Dfs (fx : Int → Int → Prop) (O : List Tr) (seen0 : Tr → Prop) (t0 : Tr) (out todo : List Tr) (seen : Tr → Prop) : Prop where
 nd : out.Nodup
 conn : ∀ y ∈ out, Conn fx O t0 y
 todo_out : ∀ y ∈ todo, y ∈ out
 seen_iff : ∀ y, seen y ↔ seen0 y ∨ y ∈ out
 done : ∀ y ∈ out, y ∉ todo → ∀ t ∈ O, Nb fx y t → t ∈ out
 start : t0 ∈ out
structure DfsIn (fx : Int → Int → Prop) (O : List Tr) (seen0 : Tr → Prop) (t0 x : Tr) (did : Tr → Prop) (out todo : List Tr) (seen : Tr → Prop) : Prop where
 nd : out.Nodup
 conn : ∀ y ∈ out, Conn fx O t0 y
 todo_out : ∀ y ∈ todo, y ∈ out
 seen_iff : ∀ y, seen y ↔ seen0 y ∨ y ∈ out
 done : ∀ y ∈ out, y ∉ todo → y ≠ x → ∀ t ∈ O, Nb fx y t → t ∈ out
 start : t0 ∈ out
 x_out : x ∈ out
 x_did : ∀ t ∈ O, Nb fx x t → did t → t ∈ out
theorem Dfs.begin {seen0 seen : Tr → Prop} {t0 : Tr} (hs : ∀ y, seen y ↔ seen0 y ∨ y = t0) : Dfs fx O seen0 t0 [t0] [t0] seen :=
 ⟨by simp, fun y hy => by rw [List.mem_singleton.mp hy]; exact .refl _, fun _ h => h, fun y => by rw [hs, List.mem_singleton], fun y hy hn => absurd hy hn, by simp⟩
theorem Dfs.take {seen0 seen : Tr → Prop} {t0 x : Tr} {out todo : List Tr} (h : Dfs fx O seen0 t0 out (todo ++ [x]) seen) : DfsIn fx O seen0 t0 x (fun _ => False) out todo seen :=
 ⟨h.nd, h.conn, fun y hy => h.todo_out y (by simp [hy]), h.seen_iff, fun y hy hn hx => h.done y hy (by simp [hn, hx]), h.start, h.todo_out x (by simp), fun _ _ _ k => k.elim⟩
theorem DfsIn.skip {seen0 seen did did' : Tr → Prop} {t0 x : Tr} {out todo : List Tr} (h : DfsIn fx O seen0 t0 x did out todo seen) (hd : ∀ t ∈ O, Nb fx x t → did' t → did t ∨ t ∈ out) : DfsIn fx O seen0 t0 x did' out todo seen :=
 ⟨h.nd, h.conn, h.todo_out, h.seen_iff, h.done, h.start, h.x_out, fun t ht hn k => (hd t ht hn k).elim (h.x_did t ht hn) id⟩
theorem DfsIn.push {seen0 seen seen' did did' : Tr → Prop} {t0 x y : Tr} {out todo : List Tr} (h : DfsIn fx O seen0 t0 x did out todo seen) (hy : y ∈ O) (hn : Nb fx x y) (hns : ¬ seen y) (hs : ∀ z, seen' z ↔ seen z ∨ z = y) (hd : ∀ t ∈ O, Nb fx x t → did' t → did t ∨ t = y) :
 DfsIn fx O seen0 t0 x did' (out ++ [y]) (todo ++ [y]) seen' where
 nd := by
  rw [List.nodup_append]
  refine ⟨h.nd, by simp, fun a ha b hb e => ?_⟩
  rw [List.mem_singleton.mp hb] at e
  subst e
  exact hns ((h.seen_iff _).mpr (.inr ha))
 conn z hz := by
  rcases List.mem_append.mp hz with k | k
  ·exact h.conn z k
  ·rw [List.mem_singleton.mp k]
   exact .step (h.conn x h.x_out) hy hn
 todo_out z hz := by
  rcases List.mem_append.mp hz with k | k
  ·exact List.mem_append_left _ (h.todo_out z k)
  ·exact List.mem_append_right _ k
 seen_iff z := by rw [hs, h.seen_iff, List.mem_append, List.mem_singleton, or_assoc]
 done z hz hn hx t ht hb := by
  rcases List.mem_append.mp hz with k | k
  ·exact List.mem_append_left _ (h.done z k (fun q => hn (List.mem_append_left _ q)) hx t ht hb)
  ·exact absurd (List.mem_append_right _ k) hn
 start := List.mem_append_left _ h.start
 x_out := List.mem_append_left _ h.x_out
 x_did t ht hb k := by
  rcases hd t ht hb k with q | q
  ·exact List.mem_append_left _ (h.x_did t ht hb q)
  ·rw [q]; simp
theorem DfsIn.close {seen0 seen did : Tr → Prop} {t0 x : Tr} {out todo : List Tr} (h : DfsIn fx O seen0 t0 x did out todo seen) (hd : ∀ t ∈ O, Nb fx x t → did t ∨ t ∈ out) : Dfs fx O seen0 t0 out todo seen :=
 ⟨h.nd, h.conn, h.todo_out, h.seen_iff, fun y hy hn t ht hb => by
  by_cases e : y = x
  ·subst e
   rcases hd t ht hb with k | k
   ·exact h.x_did t ht hb k
   ·exact k
  ·exact h.done y hy hn e t ht hb, h.start⟩
theorem Dfs.all {seen0 seen : Tr → Prop} {t0 : Tr} {out : List Tr} (h : Dfs fx O seen0 t0 out [] seen) : ∀ t, t ∈ out ↔ Conn fx O t0 t := fun t =>
 ⟨h.conn t, fun k => Conn.closed (S := fun s => s ∈ out) (fun s hs u hu hb => h.done s hs (by simp) u hu hb) k h.start⟩
theorem nodup_size : ∀ (a b : List Tr), a.Nodup → (∀ x ∈ a, x ∈ b) → a.length ≤ b.length
 | [], _, _, _ => Nat.zero_le _
 | x :: a, b, h, hm => by
  obtain ⟨h1, h2⟩ := List.nodup_cons.mp h
  have hx := hm x (by simp)
  have := nodup_size a (b.erase x) h2 (fun y hy => (List.mem_erase_of_ne (fun h0 => h1 (by rw [← h0]; exact hy))).mpr (hm y (by simp [hy])))
  rw [List.length_erase_of_mem hx] at this
  have := List.length_pos_of_mem hx
  simp; omega
theorem Dfs.size {seen0 seen : Tr → Prop} {t0 : Tr} {out todo : List Tr} (h : Dfs fx O seen0 t0 out todo seen) (h0 : t0 ∈ O) : out.length ≤ O.length :=
 nodup_size _ _ h.nd fun y hy => (h.conn y hy).mem h0
structure Till (fx : Int → Int → Prop) (O : List Tr) (k : Nat) (L : List (List Tr)) (seen : Tr → Prop) : Prop where
 up : ∀ p ∈ L, Up p
 ne : ∀ p ∈ L, p ≠ []
 heads : (L.map fun p => p.head?.getD (0, 0, 0)).Pairwise lt3
 from_ : ∀ p ∈ L, p.head?.getD (0, 0, 0) ∈ O.take k
 all : ∀ t ∈ O.take k, ∃ p ∈ L, t ∈ p
 part : ∀ p ∈ L, ∀ s ∈ p, s ∈ O ∧ ∀ t, t ∈ p ↔ Conn fx O s t
 seen_iff : ∀ t ∈ O, seen t ↔ ∃ p ∈ L, t ∈ p
theorem Till.begin {seen : Tr → Prop} (h : ∀ t, ¬ seen t) : Till fx O 0 [] seen :=
 ⟨by simp, by simp, by simp, by simp, by simp, by simp, fun t _ => ⟨fun k => absurd k (h t), by simp⟩⟩
theorem Till.skip {k : Nat} {L : List (List Tr)} {seen : Tr → Prop} (h : Till fx O k L seen) (hk : k < O.length) (hs : seen O[k]) : Till fx O (k + 1) L seen where
 up := h.up
 ne := h.ne
 heads := h.heads
 from_ p hp := by rw [List.take_succ_eq_append_getElem hk]; exact List.mem_append_left _ (h.from_ p hp)
 all t ht := by
  rw [List.take_succ_eq_append_getElem hk] at ht
  rcases List.mem_append.mp ht with q | q
  ·exact h.all t q
  ·rw [List.mem_singleton.mp q]
   exact (h.seen_iff _ (List.getElem_mem _)).mp hs
 part := h.part
 seen_iff := h.seen_iff
theorem Till.add {k : Nat} {L : List (List Tr)} {seen seen' : Tr → Prop} (m : Mesh O) (hf : ∀ a b, fx a b ↔ fx b a) (h : Till fx O k L seen) (hk : k < O.length) (hs : ¬ seen O[k]) {p : List Tr} (hp : Up p) (hm : ∀ t, t ∈ p ↔ Conn fx O O[k] t) (hn : ∀ t, seen' t ↔ seen t ∨ t ∈ p) : Till fx O (k + 1) (L ++ [p]) seen' := by
 have hO : O[k] ∈ O := List.getElem_mem _
 have hkp : O[k] ∈ p := (hm _).mpr (.refl _)
 have hne : p ≠ [] := fun e => by rw [e] at hkp; simp at hkp
 have hpo : ∀ t ∈ p, t ∈ O := fun t ht => ((hm t).mp ht).mem hO
 have hns : ∀ t ∈ p, ¬ seen t := fun t ht q => by
  obtain ⟨r, hr, hr2⟩ := (h.seen_iff t (hpo t ht)).mp q
  have h1 := ((h.part r hr t hr2).2 O[k]).mpr (((hm t).mp ht).symm hf hO)
  exact hs ((h.seen_iff _ hO).mpr ⟨r, hr, h1⟩)
 have hnt : ∀ t ∈ p, t ∉ O.take k := fun t ht q => by
  obtain ⟨r, hr, hr2⟩ := h.all t q
  exact hns t ht ((h.seen_iff t (hpo t ht)).mpr ⟨r, hr, hr2⟩)
 have hle : ∀ t ∈ p, t = O[k] ∨ lt3 O[k] t := fun t ht => by
  obtain ⟨i, hi, rfl⟩ := List.mem_iff_getElem.mp (hpo t ht)
  rcases Nat.lt_trichotomy i k with q | q | q
  ·exact absurd (List.mem_take_iff_getElem.mpr ⟨i, by omega, rfl⟩) (hnt _ ht)
  ·subst q; exact .inl rfl
  ·exact .inr (List.pairwise_iff_getElem.mp m.up k i hk hi q)
 have hhd : p.head?.getD (0, 0, 0) = O[k] := by
  obtain ⟨q1, q2⟩ := up_head hp hne
  rcases q2 _ hkp with q | q
  ·exact q.symm
  ·rcases hle _ q1 with r | r
   ·exact r
   ·exact absurd (lt3_trans q r) (lt3_irrefl _)
 refine ⟨fun q hq => ?_, fun q hq => ?_, ?_, fun q hq => ?_, fun t ht => ?_, fun q hq => ?_, fun t ht => ?_⟩
 ·rcases List.mem_append.mp hq with r | r
  ·exact h.up q r
  ·rw [List.mem_singleton.mp r]; exact hp
 ·rcases List.mem_append.mp hq with r | r
  ·exact h.ne q r
  ·rw [List.mem_singleton.mp r]; exact hne
 ·rw [List.map_append, List.pairwise_append]
  refine ⟨h.heads, by simp, fun a ha b hb => ?_⟩
  rw [List.map_cons, List.map_nil, List.mem_singleton] at hb
  rw [hb, hhd]
  obtain ⟨r, hr, rfl⟩ := List.mem_map.mp ha
  obtain ⟨i, hi, e⟩ := List.mem_take_iff_getElem.mp (h.from_ r hr)
  rw [← e]
  exact List.pairwise_iff_getElem.mp m.up i k (by omega) hk (by omega)
 ·rw [List.take_succ_eq_append_getElem hk]
  rcases List.mem_append.mp hq with r | r
  ·exact List.mem_append_left _ (h.from_ q r)
  ·rw [List.mem_singleton.mp r, hhd]; exact List.mem_append_right _ (List.mem_singleton.mpr rfl)
 ·rw [List.take_succ_eq_append_getElem hk] at ht
  rcases List.mem_append.mp ht with r | r
  ·obtain ⟨q, q1, q2⟩ := h.all t r
   exact ⟨q, List.mem_append_left _ q1, q2⟩
  ·rw [List.mem_singleton.mp r]
   exact ⟨p, by simp, hkp⟩
 ·rcases List.mem_append.mp hq with r | r
  ·exact h.part q r
  ·rw [List.mem_singleton.mp r]
   intro s hs2
   refine ⟨hpo s hs2, fun t => ?_⟩
   rw [hm]
   exact ⟨fun c => (((hm s).mp hs2).symm hf hO).trans c, fun c => ((hm s).mp hs2).trans c⟩
 ·rw [hn, h.seen_iff t ht]
  constructor
  ·rintro (⟨q, q1, q2⟩ | q)
   ·exact ⟨q, List.mem_append_left _ q1, q2⟩
   ·exact ⟨p, by simp, q⟩
  ·rintro ⟨q, q1, q2⟩
   rcases List.mem_append.mp q1 with r | r
   ·exact .inl ⟨q, r, q2⟩
   ·rw [List.mem_singleton.mp r] at q2; exact .inr q2
theorem Till.parts {L : List (List Tr)} {seen : Tr → Prop} (h : Till fx O O.length L seen) : IsParts fx O L :=
 ⟨h.up, h.ne, h.heads, fun t ht => h.all t (by rw [List.take_length]; exact ht), h.part⟩
end
end Go.Proofs.YtaoichlepfiliaaGreatDoor.Msh
end
section
namespace Go.Proofs.YtaoichlepfiliaaGreatDoor.Msh
open Go.Proofs.YtaoichlepfiliaaGreatDoor.Mp
def Apx (f : Int × Int → Option Value) (O : List Tr) : Prop := ∀ x y v, f (x, y) = some v ↔ ∃ c, v = .int .i64 c ∧ Has O x y c
theorem apx_none : Apx (fun _ => none) [] := fun x y v => by simp [Has]
theorem mesh_none : Mesh [] := ⟨by unfold Up; simp, by simp, by simp, by simp [Has]⟩
theorem Apx.get {f : Int × Int → Option Value} {O : List Tr} (h : Apx f O) {x y c : Int} (k : Has O x y c) : f (x, y) = some (.int .i64 c) := (h x y _).mpr ⟨c, rfl, k⟩
theorem Apx.none {f : Int × Int → Option Value} {O : List Tr} (h : Apx f O) {x y : Int} : f (x, y) = none ↔ ∀ c, ¬ Has O x y c := by
 constructor
 ·intro e c k
  rw [h.get k] at e
  cases e
 ·intro k
  cases e : f (x, y) with
  | none => rfl
  | some v =>
   obtain ⟨c, -, hc⟩ := (h x y v).mp e
   exact absurd hc (k c)
theorem own_eq_iff {a b c x y z : Int} (hd : Ds (a, b, c)) : own (x, y, z) = own (a, b, c) ↔ ((x, y, z) : Tr) = (a, b, c) ∨ ((x, y, z) : Tr) = (b, c, a) ∨ ((x, y, z) : Tr) = (c, a, b) := by
 constructor
 ·intro h
  exact rot_of_own h
 ·rintro (h | h | h) <;> rw [h]
  ·exact own_rot (t := (a, b, c)) hd
  ·rw [show ((c, a, b) : Tr) = rot (rot (a, b, c)) from rfl, own_rot (ds_rot hd), own_rot hd]
theorem has_put {O : List Tr} {a b c x y z : Int} (hd : Ds (a, b, c)) : Has (put (own (a, b, c)) O) x y z ↔ (((x, y, z) : Tr) = (a, b, c) ∨ ((x, y, z) : Tr) = (b, c, a) ∨ ((x, y, z) : Tr) = (c, a, b)) ∨ Has O x y z := by
 unfold Has
 rw [put_mem, own_eq_iff hd]
theorem apx_make {f : Int × Int → Option Value} {O : List Tr} (m : Mesh O) (h : Apx f O) {a b c : Int} (hd : Ds (a, b, c)) (h1 : f (a, b) = none) (h2 : f (b, c) = none) (h3 : f (c, a) = none) :
 Mesh (put (own (a, b, c)) O) ∧ Apx (upd (upd (upd f (a, b) (some (.int .i64 c))) (b, c) (some (.int .i64 a))) (c, a) (some (.int .i64 b))) (put (own (a, b, c)) O) := by
 have n1 := h.none.mp h1
 have n2 := h.none.mp h2
 have n3 := h.none.mp h3
 have hds := hd
 unfold Ds at hds
 simp only at hds
 refine ⟨⟨put_up m.up (n1 c), fun t ht => ?_, fun t ht => ?_, fun x y z z' k k' => ?_⟩, fun x y v => ?_⟩
 ·rcases put_mem.mp ht with e | e
  ·rw [e]; exact lo_own _
  ·exact m.lo t e
 ·rcases put_mem.mp ht with e | e
  ·rw [e]; exact ds_own hd
  ·exact m.ds t e
 ·rw [has_put hd] at k k'
  simp only [Prod.mk.injEq] at k k'
  rcases k with k | k <;> rcases k' with k' | k'
  ·omega
  ·rcases k with k | k | k
   ·obtain ⟨rfl, rfl, rfl⟩ := k; exact absurd k' (n1 _)
   ·obtain ⟨rfl, rfl, rfl⟩ := k; exact absurd k' (n2 _)
   ·obtain ⟨rfl, rfl, rfl⟩ := k; exact absurd k' (n3 _)
  ·rcases k' with k' | k' | k'
   ·obtain ⟨rfl, rfl, rfl⟩ := k'; exact absurd k (n1 _)
   ·obtain ⟨rfl, rfl, rfl⟩ := k'; exact absurd k (n2 _)
   ·obtain ⟨rfl, rfl, rfl⟩ := k'; exact absurd k (n3 _)
  ·exact m.one _ _ _ _ k k'
 ·unfold upd
  simp only [has_put hd, Prod.mk.injEq]
  by_cases e3 : x = c ∧ y = a
  ·rw [if_pos e3]
   obtain ⟨rfl, rfl⟩ := e3
   constructor
   ·intro e; injection e with e; exact ⟨b, e.symm, .inl (.inr (.inr ⟨rfl, rfl, rfl⟩))⟩
   ·rintro ⟨z, rfl, k⟩
    rcases k with k | k
    ·rw [show z = b by omega]
    ·exact absurd k (n3 z)
  ·rw [if_neg e3]
   by_cases e2 : x = b ∧ y = c
   ·rw [if_pos e2]
    obtain ⟨rfl, rfl⟩ := e2
    constructor
    ·intro e; injection e with e; exact ⟨a, e.symm, .inl (.inr (.inl ⟨rfl, rfl, rfl⟩))⟩
    ·rintro ⟨z, rfl, k⟩
     rcases k with k | k
     ·rw [show z = a by omega]
     ·exact absurd k (n2 z)
   ·rw [if_neg e2]
    by_cases e1 : x = a ∧ y = b
    ·rw [if_pos e1]
     obtain ⟨rfl, rfl⟩ := e1
     constructor
     ·intro e; injection e with e; exact ⟨c, e.symm, .inl (.inl ⟨rfl, rfl, rfl⟩)⟩
     ·rintro ⟨z, rfl, k⟩
      rcases k with k | k
      ·rw [show z = c by omega]
      ·exact absurd k (n1 z)
    ·rw [if_neg e1, h x y v]
     constructor
     ·rintro ⟨z, e, k⟩; exact ⟨z, e, .inr k⟩
     ·rintro ⟨z, e, k | k⟩
      ·omega
      ·exact ⟨z, e, k⟩
theorem apx_kill {f : Int × Int → Option Value} {O : List Tr} (m : Mesh O) (h : Apx f O) {a b c : Int} (hh : Has O a b c) :
 Mesh (O.filter (· ≠ own (a, b, c))) ∧ Apx (upd (upd (upd f (a, b) Option.none) (b, c) Option.none) (c, a) Option.none) (O.filter (· ≠ own (a, b, c))) := by
 have hd := has_ds m.ds hh
 have h2 := m.rot hh
 have h3 := m.rot h2
 have hds := hd
 unfold Ds at hds
 simp only at hds
 have hf : ∀ x y z, Has (O.filter (· ≠ own (a, b, c))) x y z ↔ Has O x y z ∧ ¬ (((x, y, z) : Tr) = (a, b, c) ∨ ((x, y, z) : Tr) = (b, c, a) ∨ ((x, y, z) : Tr) = (c, a, b)) := fun x y z => by
  unfold Has
  rw [List.mem_filter, decide_eq_true_iff, ← own_eq_iff hd]
 refine ⟨m.sub (up_filter m.up _) (fun t ht => (List.mem_filter.mp ht).1), fun x y v => ?_⟩
 unfold upd
 simp only [hf, Prod.mk.injEq]
 by_cases e3 : x = c ∧ y = a
 ·rw [if_pos e3]
  obtain ⟨rfl, rfl⟩ := e3
  refine ⟨(fun e => by cases e), fun ⟨z, _, k, n⟩ => ?_⟩
  have := m.one _ _ _ _ k h3
  subst this
  exact absurd (.inr (.inr ⟨rfl, rfl, rfl⟩)) n
 ·rw [if_neg e3]
  by_cases e2 : x = b ∧ y = c
  ·rw [if_pos e2]
   obtain ⟨rfl, rfl⟩ := e2
   refine ⟨(fun e => by cases e), fun ⟨z, _, k, n⟩ => ?_⟩
   have := m.one _ _ _ _ k h2
   subst this
   exact absurd (.inr (.inl ⟨rfl, rfl, rfl⟩)) n
  ·rw [if_neg e2]
   by_cases e1 : x = a ∧ y = b
   ·rw [if_pos e1]
    obtain ⟨rfl, rfl⟩ := e1
    refine ⟨(fun e => by cases e), fun ⟨z, _, k, n⟩ => ?_⟩
    have := m.one _ _ _ _ k hh
    subst this
    exact absurd (.inl ⟨rfl, rfl, rfl⟩) n
   ·rw [if_neg e1, h x y v]
    constructor
    ·rintro ⟨z, e, k⟩; exact ⟨z, e, k, by omega⟩
    ·rintro ⟨z, e, k, -⟩; exact ⟨z, e, k⟩
theorem put_length (t : Tr) : ∀ l : List Tr, (put t l).length = l.length + 1
 | [] => rfl
 | x :: l => by
  unfold put
  split
  ·rfl
  ·rw [List.length_cons, put_length t l]; rfl
theorem apx_tri {f : Int × Int → Option Value} {O : List Tr} (m : Mesh O) (h : Apx f O) {x y c : Int} : ((x, y, c) : Tr) ∈ O ↔ f (x, y) = some (.int .i64 c) ∧ x < y ∧ x < c := by
 constructor
 ·intro k
  have hl := m.lo _ k
  have hd := m.ds _ k
  have ho := own_of_lo hl
  refine ⟨h.get (by unfold Has; rw [ho]; exact k), ?_⟩
  unfold Lo at hl
  unfold Ds at hd
  simp only at hl hd
  omega
 ·rintro ⟨e, h1, h2⟩
  obtain ⟨z, ez, k⟩ := (h x y _).mp e
  have : c = z := by injection ez
  subst this
  unfold Has at k
  rw [own_of_lo (by unfold Lo; simp only; omega)] at k
  exact k
def lt2 (s t : Tr) : Prop := s.1 < t.1 ∨ s.1 = t.1 ∧ s.2.1 < t.2.1
instance (s t : Tr) : Decidable (lt2 s t) := by unfold lt2; exact inferInstance
def Up2 (l : List Tr) : Prop := l.Pairwise lt2
def Fxs (g : Int × Int → Option Value) (F : List Tr) : Prop := ∀ x y v, g (x, y) = some v ↔ ∃ c, v = .int .i64 c ∧ ((x, y, c) : Tr) ∈ F
theorem fxs_none : Fxs (fun _ => Option.none) [] := fun x y v => by simp
def Fixd (F : List Tr) (a b : Int) : Prop := ∃ c, ((min a b, max a b, c) : Tr) ∈ F
theorem fixd_comm (F : List Tr) (a b : Int) : Fixd F a b ↔ Fixd F b a := by
 unfold Fixd
 rw [show min a b = min b a by omega, show max a b = max b a by omega]
def loose (x y : Int) (F : List Tr) : List Tr := F.filter fun s => !(decide (s.1 = x) && decide (s.2.1 = y))
def put2 (t : Tr) : List Tr → List Tr
 | [] => [t]
 | x :: l => if lt2 x t then x :: put2 t l else t :: x :: l
theorem put2_mem {t x : Tr} : ∀ {l : List Tr}, x ∈ put2 t l ↔ x = t ∨ x ∈ l
 | [] => by simp [put2]
 | y :: l => by
  unfold put2
  split
  ·rw [List.mem_cons, put2_mem, List.mem_cons]
   constructor
   ·rintro (h | h | h) <;> simp [h]
   ·rintro (h | h | h) <;> simp [h]
  ·simp
theorem put2_up {t : Tr} : ∀ {l : List Tr}, Up2 l → (∀ s ∈ l, ¬ (s.1 = t.1 ∧ s.2.1 = t.2.1)) → Up2 (put2 t l)
 | [], _, _ => by unfold put2 Up2; simp
 | y :: l, h, hn => by
  obtain ⟨h1, h2⟩ := List.pairwise_cons.mp h
  unfold put2
  split
  ·rename_i ht
   refine List.pairwise_cons.mpr ⟨fun z hz => ?_, put2_up h2 (fun s hs => hn s (by simp [hs]))⟩
   rcases put2_mem.mp hz with k | k
   ·rw [k]; exact ht
   ·exact h1 z k
  ·rename_i ht
   have hty : lt2 t y := by
    have := hn y (by simp)
    unfold lt2 at *
    omega
   refine List.pairwise_cons.mpr ⟨fun z hz => ?_, h⟩
   rcases List.mem_cons.mp hz with k | k
   ·rw [k]; exact hty
   ·have := h1 z k
    unfold lt2 at *
    omega
theorem fxs_fix {g : Int × Int → Option Value} {F : List Tr} (hu : Up2 F) (h : Fxs g F) (x y c : Int) : Up2 (put2 (x, y, c) (loose x y F)) ∧ Fxs (upd g (x, y) (some (.int .i64 c))) (put2 (x, y, c) (loose x y F)) := by
 have hl : ∀ s, s ∈ loose x y F ↔ s ∈ F ∧ ¬ (s.1 = x ∧ s.2.1 = y) := fun s => by
  unfold loose
  rw [List.mem_filter, Bool.not_eq_true', Bool.and_eq_false_iff, decide_eq_false_iff_not, decide_eq_false_iff_not]
  constructor
  ·rintro ⟨k, n⟩; exact ⟨k, by omega⟩
  ·rintro ⟨k, n⟩; exact ⟨k, by omega⟩
 refine ⟨put2_up (List.Pairwise.filter _ hu) (fun s hs => ((hl s).mp hs).2), fun x' y' v => ?_⟩
 unfold upd
 simp only [put2_mem, hl, Prod.mk.injEq]
 by_cases e : x' = x ∧ y' = y
 ·rw [if_pos e]
  obtain ⟨rfl, rfl⟩ := e
  constructor
  ·intro q; injection q with q; exact ⟨c, q.symm, .inl ⟨rfl, rfl, rfl⟩⟩
  ·rintro ⟨z, rfl, ⟨-, -, rfl⟩ | ⟨-, n⟩⟩
   ·rfl
   ·exact absurd ⟨rfl, rfl⟩ n
 ·rw [if_neg e, h x' y' v]
  constructor
  ·rintro ⟨z, q, k⟩; exact ⟨z, q, .inr ⟨k, e⟩⟩
  ·rintro ⟨z, q, ⟨r1, r2, -⟩ | ⟨k, -⟩⟩
   ·exact absurd ⟨r1, r2⟩ e
   ·exact ⟨z, q, k⟩
theorem IsParts.apart {fx : Int → Int → Prop} {O : List Tr} {L : List (List Tr)} (h : IsParts fx O L) {p q : List Tr} (hp : p ∈ L) (hq : q ∈ L) {t : Tr} (h1 : t ∈ p) (h2 : t ∈ q) : p = q :=
 up_eq (h.up p hp) (h.up q hq) fun x => by rw [(h.part p hp t h1).2, (h.part q hq t h2).2]
theorem IsParts.nodup {fx : Int → Int → Prop} {O : List Tr} {L : List (List Tr)} (h : IsParts fx O L) : L.Nodup := by
 have := h.heads.imp (fun {a b} hab (e : a = b) => lt3_irrefl b (by rw [e] at hab; exact hab))
 exact List.Pairwise.of_map _ (fun a b hab e => hab (by rw [e])) this
theorem IsParts.of_kind {fx : Int → Int → Prop} {O : List Tr} {L : List (List Tr)} (h : IsParts fx O L) (g : List Tr → Bool) {t : Tr} : t ∈ (L.filter g).flatten ↔ t ∈ O ∧ t ∉ (L.filter fun p => !g p).flatten := by
 simp only [List.mem_flatten, List.mem_filter, Bool.not_eq_true']
 constructor
 ·rintro ⟨p, ⟨h1, h2⟩, h3⟩
  refine ⟨(h.part p h1 t h3).1, fun ⟨q, ⟨q1, q2⟩, q3⟩ => ?_⟩
  rw [h.apart h1 q1 h3 q3, q2] at h2
  cases h2
 ·rintro ⟨h1, h2⟩
  obtain ⟨p, p1, p2⟩ := h.all t h1
  refine ⟨p, ⟨p1, ?_⟩, p2⟩
  cases hg : g p with
  | true => rfl
  | false => exact absurd ⟨p, ⟨p1, hg⟩, p2⟩ h2
theorem IsParts.flat_nodup {fx : Int → Int → Prop} {O : List Tr} {L : List (List Tr)} (h : IsParts fx O L) (g : List Tr → Bool) : (L.filter g).flatten.Nodup := by
 unfold List.Nodup
 rw [List.pairwise_flatten]
 refine ⟨fun p hp => up_nodup (h.up p (List.mem_filter.mp hp).1), ?_⟩
 refine (List.Pairwise.filter g h.nodup).imp_of_mem fun {a b} ha hb hab x hx y hy e => ?_
 subst e
 exact hab (h.apart (List.mem_filter.mp ha).1 (List.mem_filter.mp hb).1 hx hy)
def third (a b : Int) (t : Tr) : Option Int := if t.1 = a ∧ t.2.1 = b then some t.2.2 else if t.2.1 = a ∧ t.2.2 = b then some t.1 else if t.2.2 = a ∧ t.1 = b then some t.2.1 else none
def behind (T : List Tr) (a b : Int) : Option Int := T.findSome? (third a b)
theorem third_iff {a b c : Int} {t : Tr} (hd : Ds t) : third a b t = some c ↔ own t = own (a, b, c) := by
 obtain ⟨x, y, z⟩ := t
 rw [eq_comm (a := own _), own_eq_iff hd]
 unfold third
 unfold Ds at hd
 simp only [Prod.mk.injEq] at hd ⊢
 split
 ·simp only [Option.some.injEq]; omega
 ·split
  ·simp only [Option.some.injEq]; omega
  ·split
   ·simp only [Option.some.injEq]; omega
   ·simp only [reduceCtorEq, false_iff]; omega
structure Made (T : List Tr) : Prop where
 nd : (T.map own).Nodup
 ds : ∀ t ∈ T, Ds t
 mesh : Mesh (tris T)
theorem Made.has {T : List Tr} (h : Made T) {a b c : Int} : Has (tris T) a b c ↔ ∃ t ∈ T, own t = own (a, b, c) := by
 unfold Has
 rw [tris_mem h.nd, List.mem_map]
theorem Made.apx {T : List Tr} (h : Made T) {a b c : Int} : behind T a b = some c ↔ Has (tris T) a b c := by
 rw [h.has]
 unfold behind
 rw [List.findSome?_eq_some_iff]
 constructor
 ·rintro ⟨l1, t, l2, e, h1, -⟩
  have ht : t ∈ T := by rw [e]; simp
  exact ⟨t, ht, (third_iff (h.ds t ht)).mp h1⟩
 ·rintro ⟨t, ht, h1⟩
  have hs : (T.findSome? (third a b)).isSome = true := by
   rw [List.findSome?_isSome_iff]
   exact ⟨t, ht, by rw [(third_iff (h.ds t ht)).mpr h1]; rfl⟩
  obtain ⟨d, hd⟩ := Option.isSome_iff_exists.mp hs
  obtain ⟨l1, s, l2, e, h2, h3⟩ := List.findSome?_eq_some_iff.mp hd
  have hsm : s ∈ T := by rw [e]; simp
  have h4 := (third_iff (h.ds s hsm)).mp h2
  have := h.mesh.one a b c d (h.has.mpr ⟨t, ht, h1⟩) (h.has.mpr ⟨s, hsm, h4⟩)
  subst this
  exact ⟨l1, s, l2, e, h2, h3⟩
theorem Mesh.made {O : List Tr} (m : Mesh O) : tris O = O ∧ Made O := by
 have e : O.map own = O := by
  have : ∀ t ∈ O, own t = t := fun t ht => own_of_lo (m.lo t ht)
  rw [List.map_congr_left this, List.map_id']
 have hn : (O.map own).Nodup := by rw [e]; exact up_nodup m.up
 have h : tris O = O := up_eq (tris_up hn) m.up fun x => by rw [tris_mem hn, e]
 exact ⟨h, hn, m.ds, by rw [h]; exact m⟩
theorem Mesh.apx {O : List Tr} (m : Mesh O) {a b c : Int} : behind O a b = some c ↔ Has O a b c := by
 have := m.made.2.apx (a := a) (b := b) (c := c)
 rw [m.made.1] at this
 exact this
theorem Made.apx_eq {T : List Tr} (h : Made T) (a b : Int) : behind T a b = behind (tris T) a b := by
 apply Option.ext
 intro c
 rw [h.apx, h.mesh.apx]
theorem Apx.ask {f : Int × Int → Option Value} {O : List Tr} (m : Mesh O) (h : Apx f O) (a b : Int) : f (a, b) = (behind O a b).map (Value.int .i64) := by
 apply Option.ext
 intro v
 rw [h a b v, Option.map_eq_some_iff]
 constructor
 ·rintro ⟨c, e, k⟩; exact ⟨c, m.apx.mpr k, e.symm⟩
 ·rintro ⟨c, k, e⟩; exact ⟨c, e.symm, m.apx.mp k⟩
theorem tris_add (T : List Tr) (t : Tr) : tris (T ++ [t]) = put (own t) (tris T) := by unfold tris; rw [List.map_append, List.foldl_append]; rfl
theorem tris_length (T : List Tr) : (tris T).length = T.length := by
 have : ∀ (l L : List Tr), (l.foldl (fun l t => put t l) L).length = L.length + l.length := fun l => by
  induction l with
  | nil => intro L; rfl
  | cons t l ih => intro L; rw [List.foldl_cons, ih, put_length, List.length_cons]; omega
 unfold tris
 rw [this, List.length_map]
 simp
def Free (O : List Tr) (t : Tr) : Prop := behind O t.1 t.2.1 = none ∧ behind O t.2.1 t.2.2 = none ∧ behind O t.2.2 t.1 = none
instance (O : List Tr) (t : Tr) : Decidable (Free O t) := by unfold Free; exact inferInstance
theorem Mesh.apx_none {O : List Tr} (m : Mesh O) {a b : Int} : behind O a b = none ↔ ∀ c, ¬ Has O a b c := by
 rw [Option.eq_none_iff_forall_ne_some]
 exact ⟨fun h c k => h c (m.apx.mpr k), fun h c k => h c (m.apx.mp k)⟩
theorem made_none : Made [] := ⟨by simp, by simp, mesh_none⟩
theorem Made.add {T : List Tr} (h : Made T) {t : Tr} (hd : Ds t) (hf : Free T t) : Made (T ++ [t]) := by
 have n1 : ∀ c, ¬ Has (tris T) t.1 t.2.1 c := h.mesh.apx_none.mp (by rw [← h.apx_eq]; exact hf.1)
 have hno : own t ∉ T.map own := fun k => n1 t.2.2 (by unfold Has; rw [tris_mem h.nd]; exact k)
 refine ⟨?_, fun s hs => ?_, ?_⟩
 ·rw [List.map_append, List.nodup_append]
  refine ⟨h.nd, by simp, fun a ha b hb e => ?_⟩
  rw [List.map_cons, List.map_nil, List.mem_singleton] at hb
  rw [e, hb] at ha
  exact hno ha
 ·rcases List.mem_append.mp hs with k | k
  ·exact h.ds s k
  ·rw [List.mem_singleton.mp k]; exact hd
 ·rw [tris_add]
  have n2 : ∀ c, ¬ Has (tris T) t.2.1 t.2.2 c := h.mesh.apx_none.mp (by rw [← h.apx_eq]; exact hf.2.1)
  have n3 : ∀ c, ¬ Has (tris T) t.2.2 t.1 c := h.mesh.apx_none.mp (by rw [← h.apx_eq]; exact hf.2.2)
  have key : ∀ x y : Int, (fun p : Int × Int => (behind (tris T) p.1 p.2).map (Value.int .i64)) (x, y) = (behind (tris T) x y).map (Value.int .i64) := fun _ _ => rfl
  have hA : Apx (fun p : Int × Int => (behind (tris T) p.1 p.2).map (Value.int .i64)) (tris T) := fun x y v => by
   rw [key, Option.map_eq_some_iff]
   constructor
   ·rintro ⟨c, k, e⟩; exact ⟨c, e.symm, h.mesh.apx.mp k⟩
   ·rintro ⟨c, e, k⟩; exact ⟨c, h.mesh.apx.mpr k, e.symm⟩
  exact (apx_make (a := t.1) (b := t.2.1) (c := t.2.2) h.mesh hA hd (hA.none.mpr n1) (hA.none.mpr n2) (hA.none.mpr n3)).1
def fixO (F : List Tr) (a b : Int) : Option Int := (F.find? fun s => decide (s.1 = min a b) && decide (s.2.1 = max a b)).map (·.2.2)
theorem fixO_some {F : List Tr} (hu : Up2 F) {a b c : Int} : fixO F a b = some c ↔ ((min a b, max a b, c) : Tr) ∈ F := by
 unfold fixO
 rw [Option.map_eq_some_iff]
 constructor
 ·rintro ⟨s, h1, h2⟩
  have hm := List.mem_of_find?_eq_some h1
  have hp := List.find?_some h1
  rw [Bool.and_eq_true, decide_eq_true_iff, decide_eq_true_iff] at hp
  obtain ⟨x, y, z⟩ := s
  simp only at hp h2
  rw [← hp.1, ← hp.2, ← h2]
  exact hm
 ·intro hm
  have hs : (F.find? fun s => decide (s.1 = min a b) && decide (s.2.1 = max a b)).isSome = true := by
   rw [List.find?_isSome]
   exact ⟨_, hm, by simp⟩
  obtain ⟨s, h1⟩ := Option.isSome_iff_exists.mp hs
  refine ⟨s, h1, ?_⟩
  have hm2 := List.mem_of_find?_eq_some h1
  have hp := List.find?_some h1
  rw [Bool.and_eq_true, decide_eq_true_iff, decide_eq_true_iff] at hp
  obtain ⟨i, hi, e1⟩ := List.mem_iff_getElem.mp hm
  obtain ⟨j, hj, e2⟩ := List.mem_iff_getElem.mp hm2
  rcases Nat.lt_trichotomy i j with k | k | k
  ·have := List.pairwise_iff_getElem.mp hu i j hi hj k
   rw [e1, e2] at this
   unfold lt2 at this
   simp only at this
   omega
  ·subst k; rw [e1] at e2; rw [← e2]
  ·have := List.pairwise_iff_getElem.mp hu j i hj hi k
   rw [e1, e2] at this
   unfold lt2 at this
   simp only at this
   omega
theorem fixO_fixd {F : List Tr} (hu : Up2 F) {a b : Int} : (fixO F a b).isSome = true ↔ Fixd F a b := by
 rw [Option.isSome_iff_exists]
 exact ⟨fun ⟨c, h⟩ => ⟨c, (fixO_some hu).mp h⟩, fun ⟨c, h⟩ => ⟨c, (fixO_some hu).mpr h⟩⟩
theorem Fxs.ask {g : Int × Int → Option Value} {F : List Tr} (hu : Up2 F) (h : Fxs g F) (a b : Int) : g (min a b, max a b) = (fixO F a b).map (Value.int .i64) := by
 apply Option.ext
 intro v
 rw [h _ _ v, Option.map_eq_some_iff]
 constructor
 ·rintro ⟨c, e, k⟩; exact ⟨c, (fixO_some hu).mpr k, e.symm⟩
 ·rintro ⟨c, k, e⟩; exact ⟨c, e.symm, (fixO_some hu).mp k⟩
end Go.Proofs.YtaoichlepfiliaaGreatDoor.Msh
end
