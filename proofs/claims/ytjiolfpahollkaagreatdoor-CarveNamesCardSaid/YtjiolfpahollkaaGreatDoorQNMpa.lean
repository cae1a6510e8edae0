/- What the proof needs of Mpa: only what is used is left (wip/tools/prune.py). Conditions stand in each sentence. -/
import Derived.RowKit
set_option linter.unusedVariables false
set_option linter.unusedSimpArgs false
namespace Go.Proofs.YtjiolfpahollkaaGreatDoor.Msh
abbrev Tr := Int × Int × Int
def rot (t : Tr) : Tr := (t.2.1, t.2.2, t.1)
def Lo (t : Tr) : Prop := t.1 ≤ t.2.1 ∧ t.1 ≤ t.2.2
instance (t : Tr) : Decidable (Lo t) := by unfold Lo; exact inferInstance
def own (t : Tr) : Tr := if Lo t then t else if Lo (rot t) then rot t else rot (rot t)
def Ds (t : Tr) : Prop := t.1 ≠ t.2.1 ∧ t.2.1 ≠ t.2.2 ∧ t.2.2 ≠ t.1
def lt3 (s t : Tr) : Prop := s.1 < t.1 ∨ s.1 = t.1 ∧ (s.2.1 < t.2.1 ∨ s.2.1 = t.2.1 ∧ s.2.2 < t.2.2)
instance (s t : Tr) : Decidable (lt3 s t) := by unfold lt3; exact inferInstance
theorem rot3 (t : Tr) : rot (rot (rot t)) = t := rfl
theorem lt3_irrefl (t : Tr) : ¬ lt3 t t := by unfold lt3; omega
theorem lt3_trans {a b c : Tr} (h : lt3 a b) (k : lt3 b c) : lt3 a c := by unfold lt3 at *; omega
theorem lt3_total (a b : Tr) : lt3 a b ∨ a = b ∨ lt3 b a := by
  obtain ⟨a0, a1, a2⟩ := a
  obtain ⟨b0, b1, b2⟩ := b
  unfold lt3
  simp only [Prod.mk.injEq]
  omega
theorem lo_own (t : Tr) : Lo (own t) := by
  unfold own
  by_cases h : Lo t
  · rw [if_pos h]; exact h
  · rw [if_neg h]
    by_cases k : Lo (rot t)
    · rw [if_pos k]; exact k
    · rw [if_neg k]; unfold Lo rot at *; simp only at *; omega
theorem own_cases (t : Tr) : own t = t ∨ own t = rot t ∨ own t = rot (rot t) := by
  unfold own
  by_cases h : Lo t
  · rw [if_pos h]; exact .inl rfl
  · rw [if_neg h]
    by_cases k : Lo (rot t)
    · rw [if_pos k]; exact .inr (.inl rfl)
    · rw [if_neg k]; exact .inr (.inr rfl)
theorem ds_rot {t : Tr} (h : Ds t) : Ds (rot t) := by unfold Ds rot at *; simp only at *; omega
theorem ds_own {t : Tr} (h : Ds t) : Ds (own t) := by
  rcases own_cases t with e | e | e <;> rw [e]
  · exact h
  · exact ds_rot h
  · exact ds_rot (ds_rot h)
theorem lo_unique {t : Tr} (hd : Ds t) (h : Lo t) : ¬ Lo (rot t) ∧ ¬ Lo (rot (rot t)) := by unfold Lo Ds rot at *; simp only at *; omega
theorem own_of_lo {t : Tr} (h : Lo t) : own t = t := by unfold own; rw [if_pos h]
theorem own_rot {t : Tr} (hd : Ds t) : own (rot t) = own t := by
  have key : ∀ s : Tr, Ds s → Lo s → own s = s ∧ own (rot s) = s ∧ own (rot (rot s)) = s := fun s hs hl => by
    obtain ⟨n1, n2⟩ := lo_unique hs hl
    refine ⟨own_of_lo hl, ?_, ?_⟩
    · unfold own; rw [if_neg n1, if_neg n2]; rfl
    · unfold own; rw [if_neg n2, if_pos (show Lo (rot (rot (rot s))) from hl)]; rfl
  have hl := lo_own t
  have hs := ds_own hd
  rcases own_cases t with e | e | e
  · have k := key t hd (e ▸ hl); rw [k.2.1, k.1]
  · have k := key (rot t) (ds_rot hd) (e ▸ hl); rw [k.1, e]
  · have k := key (rot (rot t)) (ds_rot (ds_rot hd)) (e ▸ hl)
    rw [e]
    have := k.2.2
    rw [rot3] at this
    exact this
theorem rot_of_own {s t : Tr} (h : own s = own t) : s = t ∨ s = rot t ∨ s = rot (rot t) := by
  rcases own_cases s with e | e | e <;> rcases own_cases t with f | f | f <;> rw [e, f] at h <;> obtain ⟨s0, s1, s2⟩ := s <;> obtain ⟨t0, t1, t2⟩ := t <;> simp only [rot, Prod.mk.injEq] at h ⊢ <;> omega
def Up (l : List Tr) : Prop := l.Pairwise lt3
theorem up_nodup {l : List Tr} (h : Up l) : l.Nodup := h.imp fun {a b} hab e => by rw [e] at hab; exact lt3_irrefl _ hab
theorem up_eq : ∀ {a b : List Tr}, Up a → Up b → (∀ x, x ∈ a ↔ x ∈ b) → a = b
  | [], [], _, _, _ => rfl
  | [], y :: _, _, _, h => absurd ((h y).mpr (by simp)) (by simp)
  | x :: _, [], _, _, h => absurd ((h x).mp (by simp)) (by simp)
  | x :: a, y :: b, ha, hb, h => by
    obtain ⟨ha1, ha2⟩ := List.pairwise_cons.mp ha
    obtain ⟨hb1, hb2⟩ := List.pairwise_cons.mp hb
    have e : x = y := by
      rcases List.mem_cons.mp ((h x).mp (by simp)) with k | k
      · exact k
      · rcases List.mem_cons.mp ((h y).mpr (by simp)) with k' | k'
        · exact k'.symm
        · exact absurd (lt3_trans (ha1 _ k') (hb1 _ k)) (lt3_irrefl _)
    subst e
    rw [up_eq ha2 hb2 fun z => ?_]
    constructor
    · intro hz
      rcases List.mem_cons.mp ((h z).mp (by simp [hz])) with k | k
      · subst k; exact absurd (ha1 _ hz) (lt3_irrefl _)
      · exact k
    · intro hz
      rcases List.mem_cons.mp ((h z).mpr (by simp [hz])) with k | k
      · subst k; exact absurd (hb1 _ hz) (lt3_irrefl _)
      · exact k
theorem up_filter {l : List Tr} (h : Up l) (p : Tr → Bool) : Up (l.filter p) := List.Pairwise.filter p h
def put (t : Tr) : List Tr → List Tr
  | [] => [t]
  | x :: l => if lt3 t x then t :: x :: l else x :: put t l
theorem put_mem {t x : Tr} : ∀ {l : List Tr}, x ∈ put t l ↔ x = t ∨ x ∈ l
  | [] => by simp [put]
  | y :: l => by
    unfold put
    split
    · simp
    · rw [List.mem_cons, put_mem, List.mem_cons]
      constructor
      · rintro (h | h | h) <;> simp [h]
      · rintro (h | h | h) <;> simp [h]
theorem put_up {t : Tr} : ∀ {l : List Tr}, Up l → t ∉ l → Up (put t l)
  | [], _, _ => by unfold put Up; simp
  | y :: l, h, hn => by
    obtain ⟨h1, h2⟩ := List.pairwise_cons.mp h
    unfold put
    split
    · rename_i ht
      exact List.pairwise_cons.mpr ⟨fun z hz => by
        rcases List.mem_cons.mp hz with k | k
        · rw [k]; exact ht
        · exact lt3_trans ht (h1 z k), h⟩
    · rename_i ht
      have hyt : lt3 y t := by
        rcases lt3_total y t with k | k | k
        · exact k
        · exact absurd (by rw [k]; simp) hn
        · exact absurd k ht
      refine List.pairwise_cons.mpr ⟨fun z hz => ?_, put_up h2 (fun k => hn (by simp [k]))⟩
      rcases put_mem.mp hz with k | k
      · rw [k]; exact hyt
      · exact h1 z k
def tris (T : List Tr) : List Tr := (T.map own).foldl (fun l t => put t l) []
theorem fold_spec : ∀ (T l : List Tr), Up l → T.Nodup → (∀ t ∈ T, t ∉ l) → Up (T.foldl (fun l t => put t l) l) ∧ ∀ x, x ∈ T.foldl (fun l t => put t l) l ↔ x ∈ T ∨ x ∈ l
  | [], l, h, _, _ => ⟨h, fun x => by simp⟩
  | t :: T, l, h, hd, hn => by
    obtain ⟨d1, d2⟩ := List.nodup_cons.mp hd
    have ih := fold_spec T (put t l) (put_up h (hn t (by simp))) d2 (fun s hs k => by
      rcases put_mem.mp k with k | k
      · rw [k] at hs; exact d1 hs
      · exact hn s (by simp [hs]) k)
    refine ⟨ih.1, fun x => ?_⟩
    rw [List.foldl_cons, ih.2, put_mem, List.mem_cons]
    constructor
    · rintro (h | h | h) <;> simp [h]
    · rintro ((h | h) | h) <;> simp [h]
theorem tris_up {T : List Tr} (h : (T.map own).Nodup) : Up (tris T) := (fold_spec _ [] (by unfold Up; simp) h (by simp)).1
theorem tris_mem {T : List Tr} (h : (T.map own).Nodup) {x : Tr} : x ∈ tris T ↔ x ∈ T.map own := by
  exact ((fold_spec (T.map own) [] (by unfold Up; simp) h (by simp)).2 x).trans (or_iff_left (by simp))
def Has (O : List Tr) (a b c : Int) : Prop := own (a, b, c) ∈ O
structure Mesh (O : List Tr) : Prop where
  up : Up O
  lo : ∀ t ∈ O, Lo t
  ds : ∀ t ∈ O, Ds t
  one : ∀ a b c d, Has O a b c → Has O a b d → c = d
theorem has_rot {O : List Tr} (h : ∀ t ∈ O, Ds t) {a b c : Int} : Has O a b c → Has O b c a := fun k => by
  have hd : Ds (a, b, c) := by
    have := h _ k
    rcases own_cases (a, b, c) with e | e | e <;> rw [e] at this
    · exact this
    · exact ds_rot (ds_rot this)
    · exact ds_rot this
  have := own_rot hd
  unfold Has
  rw [show ((b, c, a) : Tr) = rot (a, b, c) from rfl, this]
  exact k
theorem Mesh.rot {O : List Tr} (m : Mesh O) {a b c : Int} (h : Has O a b c) : Has O b c a := has_rot m.ds h
theorem has_ds {O : List Tr} (h : ∀ t ∈ O, Ds t) {a b c : Int} (k : Has O a b c) : Ds (a, b, c) := by
  have := h _ k
  rcases own_cases (a, b, c) with e | e | e <;> rw [e] at this
  · exact this
  · exact ds_rot (ds_rot this)
  · exact ds_rot this
theorem Mesh.sub {O O' : List Tr} (m : Mesh O) (hu : Up O') (h : ∀ t ∈ O', t ∈ O) : Mesh O' :=
  ⟨hu, fun t ht => m.lo t (h t ht), fun t ht => m.ds t (h t ht), fun a b c d h1 h2 => m.one a b c d (h _ h1) (h _ h2)⟩
def Nb (fx : Int → Int → Prop) (s t : Tr) : Prop := ∃ a b c d, own (a, b, c) = s ∧ own (b, a, d) = t ∧ ¬ fx a b
inductive Conn (fx : Int → Int → Prop) (O : List Tr) : Tr → Tr → Prop
  | refl (s : Tr) : Conn fx O s s
  | step {s t u : Tr} : Conn fx O s t → u ∈ O → Nb fx t u → Conn fx O s u
section
variable {fx : Int → Int → Prop} {O : List Tr}
theorem Nb.symm (hf : ∀ a b, fx a b ↔ fx b a) {s t : Tr} (h : Nb fx s t) : Nb fx t s := by
  obtain ⟨a, b, c, d, h1, h2, h3⟩ := h
  exact ⟨b, a, d, c, h2, h1, fun k => h3 ((hf a b).mpr k)⟩
theorem Conn.mem {s t : Tr} (h : Conn fx O s t) (hs : s ∈ O) : t ∈ O := by
  cases h with
  | refl => exact hs
  | step _ h2 _ => exact h2
theorem Conn.trans {s t u : Tr} (h : Conn fx O s t) (k : Conn fx O t u) : Conn fx O s u := by
  induction k with
  | refl => exact h
  | step _ h2 h3 ih => exact .step ih h2 h3
theorem Conn.symm (hf : ∀ a b, fx a b ↔ fx b a) {s t : Tr} (h : Conn fx O s t) (hs : s ∈ O) : Conn fx O t s := by
  induction h with
  | refl => exact .refl _
  | step h1 h2 h3 ih => exact (Conn.step (.refl _) (h1.mem hs) (h3.symm hf)).trans ih
theorem Conn.closed {S : Tr → Prop} (h : ∀ s, S s → ∀ t ∈ O, Nb fx s t → S t) {s t : Tr} (hc : Conn fx O s t) (hs : S s) : S t := by
  induction hc with
  | refl => exact hs
  | step _ h2 h3 ih => exact h _ ih _ h2 h3
end
structure IsParts (fx : Int → Int → Prop) (O : List Tr) (L : List (List Tr)) : Prop where
  up : ∀ p ∈ L, Up p
  ne : ∀ p ∈ L, p ≠ []
  heads : (L.map fun p => p.head?.getD (0, 0, 0)).Pairwise lt3
  all : ∀ t ∈ O, ∃ p ∈ L, t ∈ p
  part : ∀ p ∈ L, ∀ s ∈ p, s ∈ O ∧ ∀ t, t ∈ p ↔ Conn fx O s t
theorem up_head {p : List Tr} (h : Up p) (hn : p ≠ []) : p.head?.getD (0, 0, 0) ∈ p ∧ ∀ t ∈ p, t = p.head?.getD (0, 0, 0) ∨ lt3 (p.head?.getD (0, 0, 0)) t := by
  cases p with
  | nil => exact absurd rfl hn
  | cons x p =>
    refine ⟨by simp, fun t ht => ?_⟩
    rcases List.mem_cons.mp ht with k | k
    · exact .inl k
    · exact .inr ((List.pairwise_cons.mp h).1 t k)
theorem heads_eq : ∀ {a b : List (List Tr)}, (∀ p ∈ a, p ∈ b) → (∀ p ∈ b, p ∈ a) → (a.map fun p => p.head?.getD (0, 0, 0)).Pairwise lt3 → (b.map fun p => p.head?.getD (0, 0, 0)).Pairwise lt3 → a = b
  | [], [], _, _, _, _ => rfl
  | [], y :: _, _, h, _, _ => absurd (h y (by simp)) (by simp)
  | x :: _, [], h, _, _, _ => absurd (h x (by simp)) (by simp)
  | x :: a, y :: b, h1, h2, ha, hb => by
    rw [List.map_cons] at ha hb
    obtain ⟨ha1, ha2⟩ := List.pairwise_cons.mp ha
    obtain ⟨hb1, hb2⟩ := List.pairwise_cons.mp hb
    have e : x = y := by
      rcases List.mem_cons.mp (h1 x (by simp)) with k | k
      · exact k
      · rcases List.mem_cons.mp (h2 y (by simp)) with k' | k'
        · exact k'.symm
        · exact absurd (lt3_trans (ha1 _ (List.mem_map.mpr ⟨y, k', rfl⟩)) (hb1 _ (List.mem_map.mpr ⟨x, k, rfl⟩))) (lt3_irrefl _)
    subst e
    rw [heads_eq (a := a) (b := b) (fun p hp => ?_) (fun p hp => ?_) ha2 hb2]
    · rcases List.mem_cons.mp (h1 p (by simp [hp])) with k | k
      · subst k; exact absurd (ha1 _ (List.mem_map.mpr ⟨p, hp, rfl⟩)) (lt3_irrefl _)
      · exact k
    · rcases List.mem_cons.mp (h2 p (by simp [hp])) with k | k
      · subst k; exact absurd (hb1 _ (List.mem_map.mpr ⟨p, hp, rfl⟩)) (lt3_irrefl _)
      · exact k
theorem IsParts.eq {fx : Int → Int → Prop} {O : List Tr} {L M : List (List Tr)} (h : IsParts fx O L) (k : IsParts fx O M) : L = M := by
  have key : ∀ {L M : List (List Tr)}, IsParts fx O L → IsParts fx O M → ∀ p ∈ L, p ∈ M := fun {L M} h k p hp => by
    obtain ⟨m1, -⟩ := up_head (h.up p hp) (h.ne p hp)
    obtain ⟨m2, m3⟩ := h.part p hp _ m1
    obtain ⟨q, hq, m4⟩ := k.all _ m2
    obtain ⟨-, m5⟩ := k.part q hq _ m4
    rw [up_eq (h.up p hp) (k.up q hq) fun x => by rw [m3, m5]]
    exact hq
  exact heads_eq (key h k) (key k h) h.heads k.heads
end Go.Proofs.YtjiolfpahollkaaGreatDoor.Msh
