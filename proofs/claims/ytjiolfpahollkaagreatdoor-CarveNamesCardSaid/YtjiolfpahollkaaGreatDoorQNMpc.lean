/- What the proof needs of Mpc: only what is used is left (wip/tools/prune.py). Conditions stand in each sentence. -/
import Derived.Test.YtjiolfpahollkaaGreatDoorQNMpb
import Derived.Test.YtjiolfpahollkaaGreatDoorQNMmp
import Derived.Test.YtjiolfpahollkaaGreatDoorProg
import Derived.DeepKeys4
import Derived.KernelRfl
section
set_option linter.unusedVariables false
set_option linter.unusedSimpArgs false
namespace Go.Proofs.YtjiolfpahollkaaGreatDoor.Mp
end Go.Proofs.YtjiolfpahollkaaGreatDoor.Mp
namespace Go.Proofs.YtjiolfpahollkaaGreatDoor.Msh
open Go.Proofs.YtjiolfpahollkaaGreatDoor.Mp
def Apx (f : Int × Int → Option Value) (O : List Tr) : Prop := ∀ x y v, f (x, y) = some v ↔ ∃ c, v = .int .i64 c ∧ Has O x y c
theorem apx_none : Apx (fun _ => none) [] := fun x y v => by simp [Has]
theorem mesh_none : Mesh [] := ⟨by unfold Up; simp, by simp, by simp, by simp [Has]⟩
theorem Apx.get {f : Int × Int → Option Value} {O : List Tr} (h : Apx f O) {x y c : Int} (k : Has O x y c) : f (x, y) = some (.int .i64 c) := (h x y _).mpr ⟨c, rfl, k⟩
theorem Apx.none {f : Int × Int → Option Value} {O : List Tr} (h : Apx f O) {x y : Int} : f (x, y) = none ↔ ∀ c, ¬ Has O x y c := by
  constructor
  · intro e c k
    rw [h.get k] at e
    cases e
  · intro k
    cases e : f (x, y) with
    | none => rfl
    | some v =>
      obtain ⟨c, -, hc⟩ := (h x y v).mp e
      exact absurd hc (k c)
theorem own_eq_iff {a b c x y z : Int} (hd : Ds (a, b, c)) : own (x, y, z) = own (a, b, c) ↔ ((x, y, z) : Tr) = (a, b, c) ∨ ((x, y, z) : Tr) = (b, c, a) ∨ ((x, y, z) : Tr) = (c, a, b) := by
  constructor
  · intro h
    exact rot_of_own h
  · rintro (h | h | h) <;> rw [h]
    · exact own_rot (t := (a, b, c)) hd
    · rw [show ((c, a, b) : Tr) = rot (rot (a, b, c)) from rfl, own_rot (ds_rot hd), own_rot hd]
theorem has_put {O : List Tr} {a b c x y z : Int} (hd : Ds (a, b, c)) : Has (put (own (a, b, c)) O) x y z ↔ (((x, y, z) : Tr) = (a, b, c) ∨ ((x, y, z) : Tr) = (b, c, a) ∨ ((x, y, z) : Tr) = (c, a, b)) ∨ Has O x y z := by
  unfold Has
  rw [put_mem, own_eq_iff hd]
theorem apx_make {f : Int × Int → Option Value} {O : List Tr} (m : Mesh O) (h : Apx f O) {a b c : Int} (hd : Ds (a, b, c)) (h1 : f (a, b) = none) (h2 : f (b, c) = none) (h3 : f (c, a) = none) :
    Mesh (put (own (a, b, c)) O) ∧ Apx (upd (upd (upd f (a, b) (some (.int .i64 c))) (b, c) (some (.int .i64 a))) (c, a) (some (.int .i64 b))) (put (own (a, b, c)) O) := by
  have n1 := h.none.mp h1
  have n2 := h.none.mp h2
  have n3 := h.none.mp h3
  have hds := hd
  unfold Ds at hds
  simp only at hds
  refine ⟨⟨put_up m.up (n1 c), fun t ht => ?_, fun t ht => ?_, fun x y z z' k k' => ?_⟩, fun x y v => ?_⟩
  · rcases put_mem.mp ht with e | e
    · rw [e]; exact lo_own _
    · exact m.lo t e
  · rcases put_mem.mp ht with e | e
    · rw [e]; exact ds_own hd
    · exact m.ds t e
  · rw [has_put hd] at k k'
    simp only [Prod.mk.injEq] at k k'
    rcases k with k | k <;> rcases k' with k' | k'
    · omega
    · rcases k with k | k | k
      · obtain ⟨rfl, rfl, rfl⟩ := k; exact absurd k' (n1 _)
      · obtain ⟨rfl, rfl, rfl⟩ := k; exact absurd k' (n2 _)
      · obtain ⟨rfl, rfl, rfl⟩ := k; exact absurd k' (n3 _)
    · rcases k' with k' | k' | k'
      · obtain ⟨rfl, rfl, rfl⟩ := k'; exact absurd k (n1 _)
      · obtain ⟨rfl, rfl, rfl⟩ := k'; exact absurd k (n2 _)
      · obtain ⟨rfl, rfl, rfl⟩ := k'; exact absurd k (n3 _)
    · exact m.one _ _ _ _ k k'
  · unfold upd
    simp only [has_put hd, Prod.mk.injEq]
    by_cases e3 : x = c ∧ y = a
    · rw [if_pos e3]
      obtain ⟨rfl, rfl⟩ := e3
      constructor
      · intro e; injection e with e; exact ⟨b, e.symm, .inl (.inr (.inr ⟨rfl, rfl, rfl⟩))⟩
      · rintro ⟨z, rfl, k⟩
        rcases k with k | k
        · rw [show z = b by omega]
        · exact absurd k (n3 z)
    · rw [if_neg e3]
      by_cases e2 : x = b ∧ y = c
      · rw [if_pos e2]
        obtain ⟨rfl, rfl⟩ := e2
        constructor
        · intro e; injection e with e; exact ⟨a, e.symm, .inl (.inr (.inl ⟨rfl, rfl, rfl⟩))⟩
        · rintro ⟨z, rfl, k⟩
          rcases k with k | k
          · rw [show z = a by omega]
          · exact absurd k (n2 z)
      · rw [if_neg e2]
        by_cases e1 : x = a ∧ y = b
        · rw [if_pos e1]
          obtain ⟨rfl, rfl⟩ := e1
          constructor
          · intro e; injection e with e; exact ⟨c, e.symm, .inl (.inl ⟨rfl, rfl, rfl⟩)⟩
          · rintro ⟨z, rfl, k⟩
            rcases k with k | k
            · rw [show z = c by omega]
            · exact absurd k (n1 z)
        · rw [if_neg e1, h x y v]
          constructor
          · rintro ⟨z, e, k⟩; exact ⟨z, e, .inr k⟩
          · rintro ⟨z, e, k | k⟩
            · omega
            · exact ⟨z, e, k⟩
theorem apx_kill {f : Int × Int → Option Value} {O : List Tr} (m : Mesh O) (h : Apx f O) {a b c : Int} (hh : Has O a b c) :
    Mesh (O.filter (· ≠ own (a, b, c))) ∧ Apx (upd (upd (upd f (a, b) Option.none) (b, c) Option.none) (c, a) Option.none) (O.filter (· ≠ own (a, b, c))) := by
  have hd := has_ds m.ds hh
  have h2 := m.rot hh
  have h3 := m.rot h2
  have hds := hd
  unfold Ds at hds
  simp only at hds
  have hf : ∀ x y z, Has (O.filter (· ≠ own (a, b, c))) x y z ↔ Has O x y z ∧ ¬ (((x, y, z) : Tr) = (a, b, c) ∨ ((x, y, z) : Tr) = (b, c, a) ∨ ((x, y, z) : Tr) = (c, a, b)) := fun x y z => by
    unfold Has
    rw [List.mem_filter, decide_eq_true_iff, ← own_eq_iff hd]
  refine ⟨m.sub (up_filter m.up _) (fun t ht => (List.mem_filter.mp ht).1), fun x y v => ?_⟩
  unfold upd
  simp only [hf, Prod.mk.injEq]
  by_cases e3 : x = c ∧ y = a
  · rw [if_pos e3]
    obtain ⟨rfl, rfl⟩ := e3
    refine ⟨(fun e => by cases e), fun ⟨z, _, k, n⟩ => ?_⟩
    have := m.one _ _ _ _ k h3
    subst this
    exact absurd (.inr (.inr ⟨rfl, rfl, rfl⟩)) n
  · rw [if_neg e3]
    by_cases e2 : x = b ∧ y = c
    · rw [if_pos e2]
      obtain ⟨rfl, rfl⟩ := e2
      refine ⟨(fun e => by cases e), fun ⟨z, _, k, n⟩ => ?_⟩
      have := m.one _ _ _ _ k h2
      subst this
      exact absurd (.inr (.inl ⟨rfl, rfl, rfl⟩)) n
    · rw [if_neg e2]
      by_cases e1 : x = a ∧ y = b
      · rw [if_pos e1]
        obtain ⟨rfl, rfl⟩ := e1
        refine ⟨(fun e => by cases e), fun ⟨z, _, k, n⟩ => ?_⟩
        have := m.one _ _ _ _ k hh
        subst this
        exact absurd (.inl ⟨rfl, rfl, rfl⟩) n
      · rw [if_neg e1, h x y v]
        constructor
        · rintro ⟨z, e, k⟩; exact ⟨z, e, k, by omega⟩
        · rintro ⟨z, e, k, -⟩; exact ⟨z, e, k⟩
theorem put_length (t : Tr) : ∀ l : List Tr, (put t l).length = l.length + 1
  | [] => rfl
  | x :: l => by
    unfold put
    split
    · rfl
    · rw [List.length_cons, put_length t l]; rfl
theorem apx_tri {f : Int × Int → Option Value} {O : List Tr} (m : Mesh O) (h : Apx f O) {x y c : Int} : ((x, y, c) : Tr) ∈ O ↔ f (x, y) = some (.int .i64 c) ∧ x < y ∧ x < c := by
  constructor
  · intro k
    have hl := m.lo _ k
    have hd := m.ds _ k
    have ho := own_of_lo hl
    refine ⟨h.get (by unfold Has; rw [ho]; exact k), ?_⟩
    unfold Lo at hl
    unfold Ds at hd
    simp only at hl hd
    omega
  · rintro ⟨e, h1, h2⟩
    obtain ⟨z, ez, k⟩ := (h x y _).mp e
    have : c = z := by injection ez
    subst this
    unfold Has at k
    rw [own_of_lo (by unfold Lo; simp only; omega)] at k
    exact k
def lt2 (s t : Tr) : Prop := s.1 < t.1 ∨ s.1 = t.1 ∧ s.2.1 < t.2.1
instance (s t : Tr) : Decidable (lt2 s t) := by unfold lt2; exact inferInstance
def Up2 (l : List Tr) : Prop := l.Pairwise lt2
def Fxs (g : Int × Int → Option Value) (F : List Tr) : Prop := ∀ x y v, g (x, y) = some v ↔ ∃ c, v = .int .i64 c ∧ ((x, y, c) : Tr) ∈ F
theorem fxs_none : Fxs (fun _ => Option.none) [] := fun x y v => by simp
def Fixd (F : List Tr) (a b : Int) : Prop := ∃ c, ((min a b, max a b, c) : Tr) ∈ F
theorem fixd_comm (F : List Tr) (a b : Int) : Fixd F a b ↔ Fixd F b a := by
  unfold Fixd
  rw [show min a b = min b a by omega, show max a b = max b a by omega]
def loose (x y : Int) (F : List Tr) : List Tr := F.filter fun s => !(decide (s.1 = x) && decide (s.2.1 = y))
def put2 (t : Tr) : List Tr → List Tr
  | [] => [t]
  | x :: l => if lt2 x t then x :: put2 t l else t :: x :: l
theorem put2_mem {t x : Tr} : ∀ {l : List Tr}, x ∈ put2 t l ↔ x = t ∨ x ∈ l
  | [] => by simp [put2]
  | y :: l => by
    unfold put2
    split
    · rw [List.mem_cons, put2_mem, List.mem_cons]
      constructor
      · rintro (h | h | h) <;> simp [h]
      · rintro (h | h | h) <;> simp [h]
    · simp
theorem put2_up {t : Tr} : ∀ {l : List Tr}, Up2 l → (∀ s ∈ l, ¬ (s.1 = t.1 ∧ s.2.1 = t.2.1)) → Up2 (put2 t l)
  | [], _, _ => by unfold put2 Up2; simp
  | y :: l, h, hn => by
    obtain ⟨h1, h2⟩ := List.pairwise_cons.mp h
    unfold put2
    split
    · rename_i ht
      refine List.pairwise_cons.mpr ⟨fun z hz => ?_, put2_up h2 (fun s hs => hn s (by simp [hs]))⟩
      rcases put2_mem.mp hz with k | k
      · rw [k]; exact ht
      · exact h1 z k
    · rename_i ht
      have hty : lt2 t y := by
        have := hn y (by simp)
        unfold lt2 at *
        omega
      refine List.pairwise_cons.mpr ⟨fun z hz => ?_, h⟩
      rcases List.mem_cons.mp hz with k | k
      · rw [k]; exact hty
      · have := h1 z k
        unfold lt2 at *
        omega
theorem fxs_fix {g : Int × Int → Option Value} {F : List Tr} (hu : Up2 F) (h : Fxs g F) (x y c : Int) : Up2 (put2 (x, y, c) (loose x y F)) ∧ Fxs (upd g (x, y) (some (.int .i64 c))) (put2 (x, y, c) (loose x y F)) := by
  have hl : ∀ s, s ∈ loose x y F ↔ s ∈ F ∧ ¬ (s.1 = x ∧ s.2.1 = y) := fun s => by
    unfold loose
    rw [List.mem_filter, Bool.not_eq_true', Bool.and_eq_false_iff, decide_eq_false_iff_not, decide_eq_false_iff_not]
    constructor
    · rintro ⟨k, n⟩; exact ⟨k, by omega⟩
    · rintro ⟨k, n⟩; exact ⟨k, by omega⟩
  refine ⟨put2_up (List.Pairwise.filter _ hu) (fun s hs => ((hl s).mp hs).2), fun x' y' v => ?_⟩
  unfold upd
  simp only [put2_mem, hl, Prod.mk.injEq]
  by_cases e : x' = x ∧ y' = y
  · rw [if_pos e]
    obtain ⟨rfl, rfl⟩ := e
    constructor
    · intro q; injection q with q; exact ⟨c, q.symm, .inl ⟨rfl, rfl, rfl⟩⟩
    · rintro ⟨z, rfl, ⟨-, -, rfl⟩ | ⟨-, n⟩⟩
      · rfl
      · exact absurd ⟨rfl, rfl⟩ n
  · rw [if_neg e, h x' y' v]
    constructor
    · rintro ⟨z, q, k⟩; exact ⟨z, q, .inr ⟨k, e⟩⟩
    · rintro ⟨z, q, ⟨r1, r2, -⟩ | ⟨k, -⟩⟩
      · exact absurd ⟨r1, r2⟩ e
      · exact ⟨z, q, k⟩
theorem IsParts.apart {fx : Int → Int → Prop} {O : List Tr} {L : List (List Tr)} (h : IsParts fx O L) {p q : List Tr} (hp : p ∈ L) (hq : q ∈ L) {t : Tr} (h1 : t ∈ p) (h2 : t ∈ q) : p = q :=
  up_eq (h.up p hp) (h.up q hq) fun x => by rw [(h.part p hp t h1).2, (h.part q hq t h2).2]
theorem IsParts.nodup {fx : Int → Int → Prop} {O : List Tr} {L : List (List Tr)} (h : IsParts fx O L) : L.Nodup := by
  have := h.heads.imp (fun {a b} hab (e : a = b) => lt3_irrefl b (by rw [e] at hab; exact hab))
  exact List.Pairwise.of_map _ (fun a b hab e => hab (by rw [e])) this
theorem IsParts.of_kind {fx : Int → Int → Prop} {O : List Tr} {L : List (List Tr)} (h : IsParts fx O L) (g : List Tr → Bool) {t : Tr} : t ∈ (L.filter g).flatten ↔ t ∈ O ∧ t ∉ (L.filter fun p => !g p).flatten := by
  simp only [List.mem_flatten, List.mem_filter, Bool.not_eq_true']
  constructor
  · rintro ⟨p, ⟨h1, h2⟩, h3⟩
    refine ⟨(h.part p h1 t h3).1, fun ⟨q, ⟨q1, q2⟩, q3⟩ => ?_⟩
    rw [h.apart h1 q1 h3 q3, q2] at h2
    cases h2
  · rintro ⟨h1, h2⟩
    obtain ⟨p, p1, p2⟩ := h.all t h1
    refine ⟨p, ⟨p1, ?_⟩, p2⟩
    cases hg : g p with
    | true => rfl
    | false => exact absurd ⟨p, ⟨p1, hg⟩, p2⟩ h2
theorem IsParts.flat_nodup {fx : Int → Int → Prop} {O : List Tr} {L : List (List Tr)} (h : IsParts fx O L) (g : List Tr → Bool) : (L.filter g).flatten.Nodup := by
  unfold List.Nodup
  rw [List.pairwise_flatten]
  refine ⟨fun p hp => up_nodup (h.up p (List.mem_filter.mp hp).1), ?_⟩
  refine (List.Pairwise.filter g h.nodup).imp_of_mem fun {a b} ha hb hab x hx y hy e => ?_
  subst e
  exact hab (h.apart (List.mem_filter.mp ha).1 (List.mem_filter.mp hb).1 hx hy)
end Go.Proofs.YtjiolfpahollkaaGreatDoor.Msh
end
section
set_option linter.unusedVariables false
set_option linter.unusedSimpArgs false
namespace Go.Proofs.YtjiolfpahollkaaGreatDoor.Mp
end Go.Proofs.YtjiolfpahollkaaGreatDoor.Mp
namespace Go.Proofs.YtjiolfpahollkaaGreatDoor.Msh
open Go.Proofs.YtjiolfpahollkaaGreatDoor.Mp
def third (a b : Int) (t : Tr) : Option Int := if t.1 = a ∧ t.2.1 = b then some t.2.2 else if t.2.1 = a ∧ t.2.2 = b then some t.1 else if t.2.2 = a ∧ t.1 = b then some t.2.1 else none
def behind (T : List Tr) (a b : Int) : Option Int := T.findSome? (third a b)
theorem third_iff {a b c : Int} {t : Tr} (hd : Ds t) : third a b t = some c ↔ own t = own (a, b, c) := by
  obtain ⟨x, y, z⟩ := t
  rw [eq_comm (a := own _), own_eq_iff hd]
  unfold third
  unfold Ds at hd
  simp only [Prod.mk.injEq] at hd ⊢
  split
  · simp only [Option.some.injEq]; omega
  · split
    · simp only [Option.some.injEq]; omega
    · split
      · simp only [Option.some.injEq]; omega
      · simp only [reduceCtorEq, false_iff]; omega
structure Made (T : List Tr) : Prop where
  nd : (T.map own).Nodup
  ds : ∀ t ∈ T, Ds t
  mesh : Mesh (tris T)
theorem Made.has {T : List Tr} (h : Made T) {a b c : Int} : Has (tris T) a b c ↔ ∃ t ∈ T, own t = own (a, b, c) := by
  unfold Has
  rw [tris_mem h.nd, List.mem_map]
theorem Made.apx {T : List Tr} (h : Made T) {a b c : Int} : behind T a b = some c ↔ Has (tris T) a b c := by
  rw [h.has]
  unfold behind
  rw [List.findSome?_eq_some_iff]
  constructor
  · rintro ⟨l1, t, l2, e, h1, -⟩
    have ht : t ∈ T := by rw [e]; simp
    exact ⟨t, ht, (third_iff (h.ds t ht)).mp h1⟩
  · rintro ⟨t, ht, h1⟩
    have hs : (T.findSome? (third a b)).isSome = true := by
      rw [List.findSome?_isSome_iff]
      exact ⟨t, ht, by rw [(third_iff (h.ds t ht)).mpr h1]; rfl⟩
    obtain ⟨d, hd⟩ := Option.isSome_iff_exists.mp hs
    obtain ⟨l1, s, l2, e, h2, h3⟩ := List.findSome?_eq_some_iff.mp hd
    have hsm : s ∈ T := by rw [e]; simp
    have h4 := (third_iff (h.ds s hsm)).mp h2
    have := h.mesh.one a b c d (h.has.mpr ⟨t, ht, h1⟩) (h.has.mpr ⟨s, hsm, h4⟩)
    subst this
    exact ⟨l1, s, l2, e, h2, h3⟩
theorem Mesh.made {O : List Tr} (m : Mesh O) : tris O = O ∧ Made O := by
  have e : O.map own = O := by
    have : ∀ t ∈ O, own t = t := fun t ht => own_of_lo (m.lo t ht)
    rw [List.map_congr_left this, List.map_id']
  have hn : (O.map own).Nodup := by rw [e]; exact up_nodup m.up
  have h : tris O = O := up_eq (tris_up hn) m.up fun x => by rw [tris_mem hn, e]
  exact ⟨h, hn, m.ds, by rw [h]; exact m⟩
theorem Mesh.apx {O : List Tr} (m : Mesh O) {a b c : Int} : behind O a b = some c ↔ Has O a b c := by
  have := m.made.2.apx (a := a) (b := b) (c := c)
  rw [m.made.1] at this
  exact this
theorem Apx.ask {f : Int × Int → Option Value} {O : List Tr} (m : Mesh O) (h : Apx f O) (a b : Int) : f (a, b) = (behind O a b).map (Value.int .i64) := by
  apply Option.ext
  intro v
  rw [h a b v, Option.map_eq_some_iff]
  constructor
  · rintro ⟨c, e, k⟩; exact ⟨c, m.apx.mpr k, e.symm⟩
  · rintro ⟨c, k, e⟩; exact ⟨c, e.symm, m.apx.mp k⟩
def Free (O : List Tr) (t : Tr) : Prop := behind O t.1 t.2.1 = none ∧ behind O t.2.1 t.2.2 = none ∧ behind O t.2.2 t.1 = none
instance (O : List Tr) (t : Tr) : Decidable (Free O t) := by unfold Free; exact inferInstance
theorem Mesh.apx_none {O : List Tr} (m : Mesh O) {a b : Int} : behind O a b = none ↔ ∀ c, ¬ Has O a b c := by
  rw [Option.eq_none_iff_forall_ne_some]
  exact ⟨fun h c k => h c (m.apx.mpr k), fun h c k => h c (m.apx.mp k)⟩
def fixO (F : List Tr) (a b : Int) : Option Int := (F.find? fun s => decide (s.1 = min a b) && decide (s.2.1 = max a b)).map (·.2.2)
theorem fixO_some {F : List Tr} (hu : Up2 F) {a b c : Int} : fixO F a b = some c ↔ ((min a b, max a b, c) : Tr) ∈ F := by
  unfold fixO
  rw [Option.map_eq_some_iff]
  constructor
  · rintro ⟨s, h1, h2⟩
    have hm := List.mem_of_find?_eq_some h1
    have hp := List.find?_some h1
    rw [Bool.and_eq_true, decide_eq_true_iff, decide_eq_true_iff] at hp
    obtain ⟨x, y, z⟩ := s
    simp only at hp h2
    rw [← hp.1, ← hp.2, ← h2]
    exact hm
  · intro hm
    have hs : (F.find? fun s => decide (s.1 = min a b) && decide (s.2.1 = max a b)).isSome = true := by
      rw [List.find?_isSome]
      exact ⟨_, hm, by simp⟩
    obtain ⟨s, h1⟩ := Option.isSome_iff_exists.mp hs
    refine ⟨s, h1, ?_⟩
    have hm2 := List.mem_of_find?_eq_some h1
    have hp := List.find?_some h1
    rw [Bool.and_eq_true, decide_eq_true_iff, decide_eq_true_iff] at hp
    obtain ⟨i, hi, e1⟩ := List.mem_iff_getElem.mp hm
    obtain ⟨j, hj, e2⟩ := List.mem_iff_getElem.mp hm2
    rcases Nat.lt_trichotomy i j with k | k | k
    · have := List.pairwise_iff_getElem.mp hu i j hi hj k
      rw [e1, e2] at this
      unfold lt2 at this
      simp only at this
      omega
    · subst k; rw [e1] at e2; rw [← e2]
    · have := List.pairwise_iff_getElem.mp hu j i hj hi k
      rw [e1, e2] at this
      unfold lt2 at this
      simp only at this
      omega
theorem fixO_fixd {F : List Tr} (hu : Up2 F) {a b : Int} : (fixO F a b).isSome = true ↔ Fixd F a b := by
  rw [Option.isSome_iff_exists]
  exact ⟨fun ⟨c, h⟩ => ⟨c, (fixO_some hu).mp h⟩, fun ⟨c, h⟩ => ⟨c, (fixO_some hu).mpr h⟩⟩
theorem Fxs.ask {g : Int × Int → Option Value} {F : List Tr} (hu : Up2 F) (h : Fxs g F) (a b : Int) : g (min a b, max a b) = (fixO F a b).map (Value.int .i64) := by
  apply Option.ext
  intro v
  rw [h _ _ v, Option.map_eq_some_iff]
  constructor
  · rintro ⟨c, e, k⟩; exact ⟨c, (fixO_some hu).mpr k, e.symm⟩
  · rintro ⟨c, k, e⟩; exact ⟨c, e.symm, (fixO_some hu).mp k⟩
end Go.Proofs.YtjiolfpahollkaaGreatDoor.Msh
end
section
set_option linter.unusedVariables false
set_option linter.unusedSimpArgs false
namespace Go.Proofs.YtjiolfpahollkaaGreatDoor.Mp
end Go.Proofs.YtjiolfpahollkaaGreatDoor.Mp
namespace Go.Proofs.YtjiolfpahollkaaGreatDoor.Msh
open Go.RowKit Go.Proofs.YtjiolfpahollkaaGreatDoor.Mp
theorem laidOut3 : laidOutB Tryz.prog = true := by kernel_rfl
def W64 (x : Int) : Prop := (Lit.int .i64 x).wf = true
def encE (p : Int × Int) : Value := .agg #[.int .i64 p.1, .int .i64 p.2]
def encT (t : Tr) : Value := .agg #[.int .i64 t.1, .int .i64 t.2.1, .int .i64 t.2.2]
def okE (p : Int × Int) : Prop := W64 p.1 ∧ W64 p.2
def okT (t : Tr) : Prop := W64 t.1 ∧ W64 t.2.1 ∧ W64 t.2.2
theorem encE_inj (x y : Int × Int) (h : encE x = encE y) : x = y := by
  unfold encE at h
  simp at h
  exact Prod.ext h.1 h.2
theorem encT_inj (x y : Tr) (h : encT x = encT y) : x = y := by
  unfold encT at h
  simp at h
  exact Prod.ext h.1 (Prod.ext h.2.1 h.2.2)
theorem size_two : ∃ n, Tryz.prog.types.size + 1 = n + 2 := ⟨Tryz.prog.types.size - 1, by have : 0 < Tryz.prog.types.size := of_decide_eq_true (by kernel_rfl); omega⟩
theorem lits2 {P : Program} {K e : TypeId} {n : Nat} (hK : P.underlying K = some (.array 2 e)) (he : P.underlying e = some (.int .i64)) (hc : P.cellsOf K = 2) (hce : P.cellsOf e = 1) {a b : Int} (ha : (Lit.int .i64 a).wf = true) (hb : (Lit.int .i64 b).wf = true) :
    ∃ ls, P.keyLits (n + 2) K [.int .i64 a, .int .i64 b] = some ls := by
  refine ⟨[.int .i64 a, .int .i64 b], ?_⟩
  simp [Program.keyLits, hK, he, hc, hce, ha, hb, List.range_succ]
theorem lits3 {P : Program} {K e : TypeId} {n : Nat} (hK : P.underlying K = some (.array 3 e)) (he : P.underlying e = some (.int .i64)) (hc : P.cellsOf K = 3) (hce : P.cellsOf e = 1) {a b c : Int} (ha : (Lit.int .i64 a).wf = true) (hb : (Lit.int .i64 b).wf = true) (hd : (Lit.int .i64 c).wf = true) :
    ∃ ls, P.keyLits (n + 2) K [.int .i64 a, .int .i64 b, .int .i64 c] = some ls := by
  refine ⟨[.int .i64 a, .int .i64 b, .int .i64 c], ?_⟩
  simp [Program.keyLits, hK, he, hc, hce, ha, hb, hd, List.range_succ]
theorem keyOf_arr {P : Program} {K e : TypeId} {m : Nat} (hK : P.underlying K = some (.array m e)) (hk : P.keyType K = true) {cs : Array Value} (hc : cs.size = P.cellsOf K) {ls : List Lit} (h : P.keyLits (P.types.size + 1) K cs.toList = some ls) : ∃ l, keyOf P K (.agg cs) = some l := by
  refine ⟨.string (keyBytes ls), ?_⟩
  unfold keyOf
  rw [hK]
  simp [hk, Value.formed, hK, hc, Value.cells, h]
theorem keyE (p : Int × Int) (h : okE p) : ∃ l, keyOf Tryz.prog 120 (encE p) = some l := by
  obtain ⟨n, hn⟩ := size_two
  have hc : Tryz.prog.cellsOf 120 = 2 := by kernel_rfl
  obtain ⟨ls, hl⟩ := lits2 (n := n) Tryz.underlying120 Tryz.underlying3 hc (by kernel_rfl) h.1 h.2
  rw [← hn] at hl
  exact keyOf_arr Tryz.underlying120 (by kernel_rfl) hc.symm hl
theorem keyT (t : Tr) (h : okT t) : ∃ l, keyOf Tryz.prog 53 (encT t) = some l := by
  obtain ⟨n, hn⟩ := size_two
  have hc : Tryz.prog.cellsOf 53 = 3 := by kernel_rfl
  obtain ⟨ls, hl⟩ := lits3 (n := n) Tryz.underlying53 Tryz.underlying3 hc (by kernel_rfl) h.1 h.2.1 h.2.2
  rw [← hn] at hl
  exact keyOf_arr Tryz.underlying53 (by kernel_rfl) hc.symm hl
theorem lawE : WideMaps.KeyLaw Tryz.prog 120 := deep_law_laid laidOut3 (m := 2) (by omega) (of_decide_eq_true (by kernel_rfl)) (by kernel_rfl) (by rw [Tryz.underlying120])
theorem lawT : WideMaps.KeyLaw Tryz.prog 53 := deep_law_laid laidOut3 (m := 2) (by omega) (of_decide_eq_true (by kernel_rfl)) (by kernel_rfl) (by rw [Tryz.underlying53])
theorem kE : Key Tryz.prog 120 encE okE := ⟨Maps.Keyed.of_law lawE, keyE, encE_inj⟩
theorem kT : Key Tryz.prog 53 encT okT := ⟨Maps.Keyed.of_law lawT, keyT, encT_inj⟩
theorem kI : Key Tryz.prog 3 (fun x : Int => Value.int .i64 x) W64 := ⟨Maps.int_keyed Tryz.underlying3, fun x h => ⟨_, Maps.keyOf_int_mk Tryz.underlying3 h⟩, fun x y h => by injection h⟩
end Go.Proofs.YtjiolfpahollkaaGreatDoor.Msh
end
