/- What the proof needs of Mpb: only what is used is left (wip/tools/prune.py). Conditions stand in each sentence. -/
import Derived.Test.YtjiolfpahollkaaGreatDoorQNMpa
set_option linter.unusedVariables false
set_option linter.unusedSimpArgs false
namespace Go.Proofs.YtjiolfpahollkaaGreatDoor.Msh
def Beh (O : List Tr) (a b : Int) (y : Tr) : Prop := ∃ d, Has O b a d ∧ y = own (b, a, d)
theorem nb_iff {fx : Int → Int → Prop} {O : List Tr} (m : Mesh O) {s t : Tr} (hs : s ∈ O) (ht : t ∈ O) : Nb fx s t ↔ (Beh O s.1 s.2.1 t ∧ ¬ fx s.1 s.2.1) ∨ (Beh O s.2.1 s.2.2 t ∧ ¬ fx s.2.1 s.2.2) ∨ (Beh O s.2.2 s.1 t ∧ ¬ fx s.2.2 s.1) := by
  have hso := own_of_lo (m.lo s hs)
  have hsd := m.ds s hs
  constructor
  · rintro ⟨a, b, c, d, h1, h2, h3⟩
    have hB : Beh O a b t := ⟨d, by unfold Has; rw [h2]; exact ht, h2.symm⟩
    have h4 : own (a, b, c) = own s := by rw [h1, hso]
    rcases rot_of_own h4 with e | e | e
    · subst e; exact .inl ⟨hB, h3⟩
    · have e0 : a = s.2.1 := congrArg (·.1) e
      have e1 : b = s.2.2 := congrArg (·.2.1) e
      subst e0 e1; exact .inr (.inl ⟨hB, h3⟩)
    · have e0 : a = s.2.2 := congrArg (·.1) e
      have e1 : b = s.1 := congrArg (·.2.1) e
      subst e0 e1; exact .inr (.inr ⟨hB, h3⟩)
  · rintro (⟨⟨d, -, h1⟩, h2⟩ | ⟨⟨d, -, h1⟩, h2⟩ | ⟨⟨d, -, h1⟩, h2⟩)
    · exact ⟨s.1, s.2.1, s.2.2, d, hso, h1.symm, h2⟩
    · exact ⟨s.2.1, s.2.2, s.1, d, by rw [show ((s.2.1, s.2.2, s.1) : Tr) = rot s from rfl, own_rot hsd, hso], h1.symm, h2⟩
    · exact ⟨s.2.2, s.1, s.2.1, d, by rw [show ((s.2.2, s.1, s.2.1) : Tr) = rot (rot s) from rfl, own_rot (ds_rot hsd), own_rot hsd, hso], h1.symm, h2⟩
section
variable {fx : Int → Int → Prop} {O : List Tr}
structure Dfs (fx : Int → Int → Prop) (O : List Tr) (seen0 : Tr → Prop) (t0 : Tr) (out todo : List Tr) (seen : Tr → Prop) : Prop where
  nd : out.Nodup
  conn : ∀ y ∈ out, Conn fx O t0 y
  todo_out : ∀ y ∈ todo, y ∈ out
  seen_iff : ∀ y, seen y ↔ seen0 y ∨ y ∈ out
  done : ∀ y ∈ out, y ∉ todo → ∀ t ∈ O, Nb fx y t → t ∈ out
  start : t0 ∈ out
structure DfsIn (fx : Int → Int → Prop) (O : List Tr) (seen0 : Tr → Prop) (t0 x : Tr) (did : Tr → Prop) (out todo : List Tr) (seen : Tr → Prop) : Prop where
  nd : out.Nodup
  conn : ∀ y ∈ out, Conn fx O t0 y
  todo_out : ∀ y ∈ todo, y ∈ out
  seen_iff : ∀ y, seen y ↔ seen0 y ∨ y ∈ out
  done : ∀ y ∈ out, y ∉ todo → y ≠ x → ∀ t ∈ O, Nb fx y t → t ∈ out
  start : t0 ∈ out
  x_out : x ∈ out
  x_did : ∀ t ∈ O, Nb fx x t → did t → t ∈ out
theorem Dfs.begin {seen0 seen : Tr → Prop} {t0 : Tr} (hs : ∀ y, seen y ↔ seen0 y ∨ y = t0) : Dfs fx O seen0 t0 [t0] [t0] seen :=
  ⟨by simp, fun y hy => by rw [List.mem_singleton.mp hy]; exact .refl _, fun _ h => h, fun y => by rw [hs, List.mem_singleton], fun y hy hn => absurd hy hn, by simp⟩
theorem Dfs.take {seen0 seen : Tr → Prop} {t0 x : Tr} {out todo : List Tr} (h : Dfs fx O seen0 t0 out (todo ++ [x]) seen) : DfsIn fx O seen0 t0 x (fun _ => False) out todo seen :=
  ⟨h.nd, h.conn, fun y hy => h.todo_out y (by simp [hy]), h.seen_iff, fun y hy hn hx => h.done y hy (by simp [hn, hx]), h.start, h.todo_out x (by simp), fun _ _ _ k => k.elim⟩
theorem DfsIn.skip {seen0 seen did did' : Tr → Prop} {t0 x : Tr} {out todo : List Tr} (h : DfsIn fx O seen0 t0 x did out todo seen) (hd : ∀ t ∈ O, Nb fx x t → did' t → did t ∨ t ∈ out) : DfsIn fx O seen0 t0 x did' out todo seen :=
  ⟨h.nd, h.conn, h.todo_out, h.seen_iff, h.done, h.start, h.x_out, fun t ht hn k => (hd t ht hn k).elim (h.x_did t ht hn) id⟩
theorem DfsIn.push {seen0 seen seen' did did' : Tr → Prop} {t0 x y : Tr} {out todo : List Tr} (h : DfsIn fx O seen0 t0 x did out todo seen) (hy : y ∈ O) (hn : Nb fx x y) (hns : ¬ seen y) (hs : ∀ z, seen' z ↔ seen z ∨ z = y) (hd : ∀ t ∈ O, Nb fx x t → did' t → did t ∨ t = y) :
    DfsIn fx O seen0 t0 x did' (out ++ [y]) (todo ++ [y]) seen' where
  nd := by
    rw [List.nodup_append]
    refine ⟨h.nd, by simp, fun a ha b hb e => ?_⟩
    rw [List.mem_singleton.mp hb] at e
    subst e
    exact hns ((h.seen_iff _).mpr (.inr ha))
  conn z hz := by
    rcases List.mem_append.mp hz with k | k
    · exact h.conn z k
    · rw [List.mem_singleton.mp k]
      exact .step (h.conn x h.x_out) hy hn
  todo_out z hz := by
    rcases List.mem_append.mp hz with k | k
    · exact List.mem_append_left _ (h.todo_out z k)
    · exact List.mem_append_right _ k
  seen_iff z := by rw [hs, h.seen_iff, List.mem_append, List.mem_singleton, or_assoc]
  done z hz hn hx t ht hb := by
    rcases List.mem_append.mp hz with k | k
    · exact List.mem_append_left _ (h.done z k (fun q => hn (List.mem_append_left _ q)) hx t ht hb)
    · exact absurd (List.mem_append_right _ k) hn
  start := List.mem_append_left _ h.start
  x_out := List.mem_append_left _ h.x_out
  x_did t ht hb k := by
    rcases hd t ht hb k with q | q
    · exact List.mem_append_left _ (h.x_did t ht hb q)
    · rw [q]; simp
theorem DfsIn.close {seen0 seen did : Tr → Prop} {t0 x : Tr} {out todo : List Tr} (h : DfsIn fx O seen0 t0 x did out todo seen) (hd : ∀ t ∈ O, Nb fx x t → did t ∨ t ∈ out) : Dfs fx O seen0 t0 out todo seen :=
  ⟨h.nd, h.conn, h.todo_out, h.seen_iff, fun y hy hn t ht hb => by
    by_cases e : y = x
    · subst e
      rcases hd t ht hb with k | k
      · exact h.x_did t ht hb k
      · exact k
    · exact h.done y hy hn e t ht hb, h.start⟩
theorem Dfs.all {seen0 seen : Tr → Prop} {t0 : Tr} {out : List Tr} (h : Dfs fx O seen0 t0 out [] seen) : ∀ t, t ∈ out ↔ Conn fx O t0 t := fun t =>
  ⟨h.conn t, fun k => Conn.closed (S := fun s => s ∈ out) (fun s hs u hu hb => h.done s hs (by simp) u hu hb) k h.start⟩
theorem nodup_size : ∀ (a b : List Tr), a.Nodup → (∀ x ∈ a, x ∈ b) → a.length ≤ b.length
  | [], _, _, _ => Nat.zero_le _
  | x :: a, b, h, hm => by
    obtain ⟨h1, h2⟩ := List.nodup_cons.mp h
    have hx := hm x (by simp)
    have := nodup_size a (b.erase x) h2 (fun y hy => (List.mem_erase_of_ne (fun h0 => h1 (by rw [← h0]; exact hy))).mpr (hm y (by simp [hy])))
    rw [List.length_erase_of_mem hx] at this
    have := List.length_pos_of_mem hx
    simp; omega
theorem Dfs.size {seen0 seen : Tr → Prop} {t0 : Tr} {out todo : List Tr} (h : Dfs fx O seen0 t0 out todo seen) (h0 : t0 ∈ O) : out.length ≤ O.length :=
  nodup_size _ _ h.nd fun y hy => (h.conn y hy).mem h0
structure Till (fx : Int → Int → Prop) (O : List Tr) (k : Nat) (L : List (List Tr)) (seen : Tr → Prop) : Prop where
  up : ∀ p ∈ L, Up p
  ne : ∀ p ∈ L, p ≠ []
  heads : (L.map fun p => p.head?.getD (0, 0, 0)).Pairwise lt3
  from_ : ∀ p ∈ L, p.head?.getD (0, 0, 0) ∈ O.take k
  all : ∀ t ∈ O.take k, ∃ p ∈ L, t ∈ p
  part : ∀ p ∈ L, ∀ s ∈ p, s ∈ O ∧ ∀ t, t ∈ p ↔ Conn fx O s t
  seen_iff : ∀ t ∈ O, seen t ↔ ∃ p ∈ L, t ∈ p
theorem Till.begin {seen : Tr → Prop} (h : ∀ t, ¬ seen t) : Till fx O 0 [] seen :=
  ⟨by simp, by simp, by simp, by simp, by simp, by simp, fun t _ => ⟨fun k => absurd k (h t), by simp⟩⟩
theorem Till.skip {k : Nat} {L : List (List Tr)} {seen : Tr → Prop} (h : Till fx O k L seen) (hk : k < O.length) (hs : seen O[k]) : Till fx O (k + 1) L seen where
  up := h.up
  ne := h.ne
  heads := h.heads
  from_ p hp := by rw [List.take_succ_eq_append_getElem hk]; exact List.mem_append_left _ (h.from_ p hp)
  all t ht := by
    rw [List.take_succ_eq_append_getElem hk] at ht
    rcases List.mem_append.mp ht with q | q
    · exact h.all t q
    · rw [List.mem_singleton.mp q]
      exact (h.seen_iff _ (List.getElem_mem _)).mp hs
  part := h.part
  seen_iff := h.seen_iff
theorem Till.add {k : Nat} {L : List (List Tr)} {seen seen' : Tr → Prop} (m : Mesh O) (hf : ∀ a b, fx a b ↔ fx b a) (h : Till fx O k L seen) (hk : k < O.length) (hs : ¬ seen O[k]) {p : List Tr} (hp : Up p) (hm : ∀ t, t ∈ p ↔ Conn fx O O[k] t) (hn : ∀ t, seen' t ↔ seen t ∨ t ∈ p) : Till fx O (k + 1) (L ++ [p]) seen' := by
  have hO : O[k] ∈ O := List.getElem_mem _
  have hkp : O[k] ∈ p := (hm _).mpr (.refl _)
  have hne : p ≠ [] := fun e => by rw [e] at hkp; simp at hkp
  have hpo : ∀ t ∈ p, t ∈ O := fun t ht => ((hm t).mp ht).mem hO
  have hns : ∀ t ∈ p, ¬ seen t := fun t ht q => by
    obtain ⟨r, hr, hr2⟩ := (h.seen_iff t (hpo t ht)).mp q
    have h1 := ((h.part r hr t hr2).2 O[k]).mpr (((hm t).mp ht).symm hf hO)
    exact hs ((h.seen_iff _ hO).mpr ⟨r, hr, h1⟩)
  have hnt : ∀ t ∈ p, t ∉ O.take k := fun t ht q => by
    obtain ⟨r, hr, hr2⟩ := h.all t q
    exact hns t ht ((h.seen_iff t (hpo t ht)).mpr ⟨r, hr, hr2⟩)
  have hle : ∀ t ∈ p, t = O[k] ∨ lt3 O[k] t := fun t ht => by
    obtain ⟨i, hi, rfl⟩ := List.mem_iff_getElem.mp (hpo t ht)
    rcases Nat.lt_trichotomy i k with q | q | q
    · exact absurd (List.mem_take_iff_getElem.mpr ⟨i, by omega, rfl⟩) (hnt _ ht)
    · subst q; exact .inl rfl
    · exact .inr (List.pairwise_iff_getElem.mp m.up k i hk hi q)
  have hhd : p.head?.getD (0, 0, 0) = O[k] := by
    obtain ⟨q1, q2⟩ := up_head hp hne
    rcases q2 _ hkp with q | q
    · exact q.symm
    · rcases hle _ q1 with r | r
      · exact r
      · exact absurd (lt3_trans q r) (lt3_irrefl _)
  refine ⟨fun q hq => ?_, fun q hq => ?_, ?_, fun q hq => ?_, fun t ht => ?_, fun q hq => ?_, fun t ht => ?_⟩
  · rcases List.mem_append.mp hq with r | r
    · exact h.up q r
    · rw [List.mem_singleton.mp r]; exact hp
  · rcases List.mem_append.mp hq with r | r
    · exact h.ne q r
    · rw [List.mem_singleton.mp r]; exact hne
  · rw [List.map_append, List.pairwise_append]
    refine ⟨h.heads, by simp, fun a ha b hb => ?_⟩
    rw [List.map_cons, List.map_nil, List.mem_singleton] at hb
    rw [hb, hhd]
    obtain ⟨r, hr, rfl⟩ := List.mem_map.mp ha
    obtain ⟨i, hi, e⟩ := List.mem_take_iff_getElem.mp (h.from_ r hr)
    rw [← e]
    exact List.pairwise_iff_getElem.mp m.up i k (by omega) hk (by omega)
  · rw [List.take_succ_eq_append_getElem hk]
    rcases List.mem_append.mp hq with r | r
    · exact List.mem_append_left _ (h.from_ q r)
    · rw [List.mem_singleton.mp r, hhd]; exact List.mem_append_right _ (List.mem_singleton.mpr rfl)
  · rw [List.take_succ_eq_append_getElem hk] at ht
    rcases List.mem_append.mp ht with r | r
    · obtain ⟨q, q1, q2⟩ := h.all t r
      exact ⟨q, List.mem_append_left _ q1, q2⟩
    · rw [List.mem_singleton.mp r]
      exact ⟨p, by simp, hkp⟩
  · rcases List.mem_append.mp hq with r | r
    · exact h.part q r
    · rw [List.mem_singleton.mp r]
      intro s hs2
      refine ⟨hpo s hs2, fun t => ?_⟩
      rw [hm]
      exact ⟨fun c => (((hm s).mp hs2).symm hf hO).trans c, fun c => ((hm s).mp hs2).trans c⟩
  · rw [hn, h.seen_iff t ht]
    constructor
    · rintro (⟨q, q1, q2⟩ | q)
      · exact ⟨q, List.mem_append_left _ q1, q2⟩
      · exact ⟨p, by simp, q⟩
    · rintro ⟨q, q1, q2⟩
      rcases List.mem_append.mp q1 with r | r
      · exact .inl ⟨q, r, q2⟩
      · rw [List.mem_singleton.mp r] at q2; exact .inr q2
theorem Till.parts {L : List (List Tr)} {seen : Tr → Prop} (h : Till fx O O.length L seen) : IsParts fx O L :=
  ⟨h.up, h.ne, h.heads, fun t ht => h.all t (by rw [List.take_length]; exact ht), h.part⟩
end
end Go.Proofs.YtjiolfpahollkaaGreatDoor.Msh
