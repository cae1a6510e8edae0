/- What the proof needs of PureAdmitFlat: only what is used is left (wip/tools/prune.py). Conditions stand in each sentence. -/
import Derived.Test.YtioahkblhekgpaaGreatDoorQFMAdmitFlat2
import Derived.Test.YtioahkblhekgpaaGreatDoorQFWrk
namespace Go.Proofs.YtioahkblhekgpaaGreatDoor.Adm
end Go.Proofs.YtioahkblhekgpaaGreatDoor.Adm
namespace Go.Proofs.YtioahkblhekgpaaGreatDoor.E
end Go.Proofs.YtioahkblhekgpaaGreatDoor.E
namespace Go.Proofs.YtioahkblhekgpaaGreatDoor.FltP
end Go.Proofs.YtioahkblhekgpaaGreatDoor.FltP
namespace Go.Proofs.YtioahkblhekgpaaGreatDoor.MAdmitFlat
end Go.Proofs.YtioahkblhekgpaaGreatDoor.MAdmitFlat
namespace Go.Proofs.YtioahkblhekgpaaGreatDoor.O
end Go.Proofs.YtioahkblhekgpaaGreatDoor.O
namespace Go.Proofs.YtioahkblhekgpaaGreatDoor.R
end Go.Proofs.YtioahkblhekgpaaGreatDoor.R
namespace Go.Proofs.YtioahkblhekgpaaGreatDoorW.PrintLast
end Go.Proofs.YtioahkblhekgpaaGreatDoorW.PrintLast
namespace Go.Proofs.YtioahkblhekgpaaGreatDoorW.PrintWords
end Go.Proofs.YtioahkblhekgpaaGreatDoorW.PrintWords
namespace Go.Proofs.YtioahkblhekgpaaGreatDoor.Pure
open Go.RowKit Go.Proofs.YtioahkblhekgpaaGreatDoor.R Go.Proofs.YtioahkblhekgpaaGreatDoor.E Go.Proofs.YtioahkblhekgpaaGreatDoor.O Go.Proofs.YtioahkblhekgpaaGreatDoor.MAdmitFlat Go.Proofs.YtioahkblhekgpaaGreatDoor.FltP Go.Proofs.YtioahkblhekgpaaGreatDoorW.PrintWords Go.Proofs.YtioahkblhekgpaaGreatDoorW.PrintLast
open Go.Proofs.YtioahkblhekgpaaGreatDoor.Adm (S gp Wd WdB wd_to wd_of allF allF_ok flatAll unlAll unl_lt PT sgnAt zi ordAll twAll)
theorem all_f {l : List S} (h : Wd l) : admit_All.f l = some (allF l) := by unfold admit_All.f; rw [if_pos (wd_to h)]
theorem order_f {l : List S} (h : Wd l) : admit_Order.f l = some (zi (ordAll l)) := by unfold admit_Order.f; rw [if_pos (wd_to h)]
theorem twins_f {l : List S} (h : Wd l) : admit_Twins.f l = some (zi (twAll l)) := by unfold admit_Twins.f; rw [if_pos (wd_to h)]
theorem unlike_f {l : List S} (h : Wd l) : admit_Unlike.f l = some (zi (unlAll l)) := by unfold admit_Unlike.f; rw [if_pos (wd_to h)]
theorem flat_f {l : List S} (h : Wd l) : admit_Flat.f l = some (flatAll l) := by unfold admit_Flat.f; rw [if_pos (wd_to h)]
theorem wrap64_in (n : Int) (h : -9223372036854775808 ≤ n ∧ n ≤ 9223372036854775807) : wrap64 n = n := by unfold wrap64; omega
theorem works_f : trivetlaw07_works.f = some true := by
  have hw : Wd Adm.ex1 := wd_of (by decide +kernel)
  have hw2 : Wd Adm.ex2 := wd_of (by decide +kernel)
  have o := order_f hw
  have t := twins_f hw
  have u := unlike_f hw
  have f1 := flat_f hw
  have f2 := flat_f hw2
  rw [Adm.ex1_o] at o
  rw [Adm.ex1_t] at t
  rw [Adm.ex1_u] at u
  rw [Adm.ex1_f] at f1
  rw [Adm.ex2_f] at f2
  unfold Adm.ex1 at o t u f1
  unfold Adm.ex2 at f2
  unfold trivetlaw07_works.f
  simp only [Option.bind_some, o, t, u, f1, f2]
  decide
theorem rd_zi {u : List Nat} {i : Nat} (h : i < u.length) : rd (zi u) (i : Int) = (u.getD i 0 : Nat) := by
  simp [rd, List.getD_eq_getElem?_getD, List.getElem?_eq_getElem h]
theorem wrap_at {i : Nat} (h : i < 4000000) : wrap64 ((i : Int) + 1) = ((i + 1 : Nat) : Int) := by rw [wrap64_in _ (by omega)]; rfl
theorem getD_mem {u : List Nat} {i : Nat} (h : i < u.length) : u.getD i 0 ∈ u := by
  rw [List.getD_eq_getElem?_getD, List.getElem?_eq_getElem h]; exact List.getElem_mem h
theorem sign_at {l : List S} (hg : ∀ x ∈ l, gp x = true) {a b c : Nat} (ha : a < l.length) (hb : b < l.length) (hc : c < l.length) :
    Ev (fun k => orient_Sign.f k (rd_T32 l (a : Int)).f0 (rd_T32 l (a : Int)).f1 (rd_T32 l (b : Int)).f0 (rd_T32 l (b : Int)).f1 (rd_T32 l (c : Int)).f0 (rd_T32 l (c : Int)).f1) (sgnAt l a b c) := by
  have ga := Adm.gp_good (hg _ (Adm.rd_at ha))
  have gb := Adm.gp_good (hg _ (Adm.rd_at hb))
  have gc := Adm.gp_good (hg _ (Adm.rd_at hc))
  exact Exp.sign_ev ga.1 ga.2 gb.1 gb.2 gc.1 gc.2
def onAll (l : List S) (u : List Nat) (i : Nat) : Bool := (u.drop i).all fun c => decide (sgnAt l (u.getD 0 0) (u.getD 1 0) c = 0)
theorem on_step {l : List S} {u : List Nat} {i : Nat} (h : i < u.length) : onAll l u i = (decide (sgnAt l (u.getD 0 0) (u.getD 1 0) (u.getD i 0) = 0) && onAll l u (i + 1)) := by
  unfold onAll
  rw [List.drop_eq_getElem_cons h, List.all_cons]
  rw [show u[i] = u.getD i 0 by rw [List.getD_eq_getElem?_getD, List.getElem?_eq_getElem h]; rfl]
theorem on_loop {l : List S} {u : List Nat} (hg : ∀ x ∈ l, gp x = true) (hu : ∀ y ∈ u, y < l.length) (hn : u.length ≤ 1048576) (fl : Bool) : ∀ (d i : Nat) (on : Bool), u.length = i + d → 2 ≤ i →
    Ev (fun k => trivetlaw07_AdmitFlat.l0 k l fl (zi u) on (i : Int)) (fl == (on && onAll l u i))
  | 0, i, on, hd, _ => by
    have hz : (zi u).length = u.length := List.length_map ..
    refine Ev.step (f := fun _ => some (fl == on)) (fun k => ?_) ?_
    · simp only [trivetlaw07_AdmitFlat.l0]; rw [if_neg (by rw [hz]; omega)]
    · have : onAll l u i = true := by unfold onAll; rw [List.drop_eq_nil_of_le (by omega)]; rfl
      rw [this, Bool.and_true]; exact Ev.now _
  | d + 1, i, on, hd, hi => by
    have hz : (zi u).length = u.length := List.length_map ..
    have hlt : i < u.length := by omega
    have h0 : 0 < u.length := by omega
    have h1 : 1 < u.length := by omega
    have ih := fun on' => on_loop hg hu hn fl d (i + 1) on' (by omega) (by omega)
    have u0 := hu _ (getD_mem h0)
    have u1 := hu _ (getD_mem h1)
    have ui := hu _ (getD_mem hlt)
    have e0 : rd (zi u) 0 = (u.getD 0 0 : Nat) := rd_zi (i := 0) h0
    have e1 : rd (zi u) 1 = (u.getD 1 0 : Nat) := rd_zi (i := 1) h1
    have ei := rd_zi hlt
    have hi4 : i < 4000000 := by omega
    rw [on_step hlt]
    cases on
    · refine Ev.step (f := fun k => trivetlaw07_AdmitFlat.l0 k l fl (zi u) false ((i + 1 : Nat) : Int)) (fun k => ?_) (by have := ih false; simpa using this)
      rw [trivetlaw07_AdmitFlat.l0, if_pos (by rw [hz]; omega), if_neg (by decide), wrap_at hi4]
    · refine Ev.step (f := fun k => (orient_Sign.f k (rd_T32 l (u.getD 0 0 : Nat)).f0 (rd_T32 l (u.getD 0 0 : Nat)).f1 (rd_T32 l (u.getD 1 0 : Nat)).f0 (rd_T32 l (u.getD 1 0 : Nat)).f1 (rd_T32 l (u.getD i 0 : Nat)).f0 (rd_T32 l (u.getD i 0 : Nat)).f1).bind fun t => trivetlaw07_AdmitFlat.l0 k l fl (zi u) (t == 0) ((i + 1 : Nat) : Int)) (fun k => ?_) (Ev.bind (sign_at hg u0 u1 ui) ?_)
      · rw [trivetlaw07_AdmitFlat.l0, if_pos (by rw [hz]; omega), if_pos rfl, if_pos (by rw [hz]; omega), e0, e1, ei, if_pos (by omega), if_pos (by omega), if_pos (by rw [hz]; omega), if_pos (by omega), if_pos (by omega), if_pos (by omega), if_pos (by omega), if_pos (by omega), wrap_at hi4]
      · have := ih (sgnAt l (u.getD 0 0) (u.getD 1 0) (u.getD i 0) == 0)
        rw [Bool.true_and]
        rw [show (decide (sgnAt l (u.getD 0 0) (u.getD 1 0) (u.getD i 0) = 0)) = (sgnAt l (u.getD 0 0) (u.getD 1 0) (u.getD i 0) == 0) from rfl]
        exact this
theorem flat_on {l : List S} (h : (allF l).2 = 0) : flatAll l = onAll l (unlAll l) 2 := by
  unfold flatAll onAll
  rw [if_pos h]
  by_cases h3 : (unlAll l).length < 3
  · rw [if_pos h3, List.drop_eq_nil_of_le (by omega)]; rfl
  · rw [if_neg h3, Bool.eq_iff_iff]
    simp
theorem mod_at {n : Nat} (a : Int) (h0 : 0 < n) (h1 : n ≤ 200) : IntKind.u64.wrap (n : Int) = (n : Int) ∧ ∃ m : Nat, m < n ∧ wrap64 (Int.tmod (IntKind.u64.wrap a) (n : Int)) = (m : Int) := by
  have hu : ∀ z : Int, IntKind.u64.wrap z = z % 18446744073709551616 := fun z => by simp [IntKind.wrap, IntKind.signed, IntKind.bits]
  have hn : IntKind.u64.wrap (n : Int) = (n : Int) := by rw [hu]; omega
  refine ⟨hn, ?_⟩
  rw [hu a]
  obtain ⟨b, hb⟩ := Int.eq_ofNat_of_zero_le (Int.emod_nonneg a (show (18446744073709551616 : Int) ≠ 0 by decide))
  rw [hb]
  refine ⟨b % n, Nat.mod_lt _ h0, ?_⟩
  have : b % n < n := Nat.mod_lt _ h0
  have e : Int.tmod ((b : Nat) : Int) (n : Int) = ((b % n : Nat) : Int) := rfl
  rw [e, wrap64_in _ (by omega)]
theorem PT_mem {l : List S} {i : Nat} (h : i < l.length) : ∃ x ∈ l, PT l i = (fval x.f0, fval x.f1) := ⟨_, Adm.rd_at h, rfl⟩
theorem PT_of {l : List S} {x : S} (h : x ∈ l) : ∃ i, i < l.length ∧ PT l i = (fval x.f0, fval x.f1) := by
  obtain ⟨i, hi, rfl⟩ := List.getElem_of_mem h
  exact ⟨i, hi, by unfold PT; rw [Adm.rd_get hi]⟩
theorem allflat_sub {l m : List S} (hs : ∀ x ∈ m, x ∈ l) (h : Geo.AllFlat (PT l) l.length) : Geo.AllFlat (PT m) m.length := by
  intro a ha b hb c hc
  obtain ⟨x, hx, ex⟩ := PT_mem ha
  obtain ⟨y, hy, ey⟩ := PT_mem hb
  obtain ⟨z, hz, ez⟩ := PT_mem hc
  obtain ⟨i, hi, ei⟩ := PT_of (hs _ hx)
  obtain ⟨j, hj, ej⟩ := PT_of (hs _ hy)
  obtain ⟨k, hk, ek⟩ := PT_of (hs _ hz)
  rw [ex, ey, ez, ← ei, ← ej, ← ek]
  exact h i hi j hj k hk
theorem unl_len {l : List S} (h : (allF l).2 = 0) : (unlAll l).length ≤ l.length := by
  rw [Adm.unlAll_eq h]
  exact Nat.le_trans (List.length_filter_le _ _) (Nat.le_of_eq (Adm.orderN_sorted l).length)
theorem AdmitFlat (l : List S) (a : Int) (hw : Wd l) (_ : (Lit.int .i64 a).wf = true) : ∃ k, trivetlaw07_AdmitFlat.f k l a = some true := by
  refine Ev.rounds (r := true) ?_
  have bad : Ev (fun k => trivetlaw07_AdmitFlat.j0 k l a true) true := by
    refine Ev.step (f := fun _ => some true) (fun k => ?_) (Ev.now _)
    rw [trivetlaw07_AdmitFlat.j0, if_pos rfl, works_f]; rfl
  have hf : ∀ k, trivetlaw07_AdmitFlat.f k l a = (if (l.length : Int) > 200 then (trivetlaw07_AdmitFlat.j0 k l a true) else (if (l.length : Int) = 0 then (trivetlaw07_AdmitFlat.j0 k l a true) else (trivetlaw07_AdmitFlat.j0 k l a ((allF l).2 != 0)))) := fun k => by
    unfold trivetlaw07_AdmitFlat.f
    rw [all_f hw, works_f]; simp only [Option.bind_some]
    rw [if_pos trivial]
  by_cases h1 : (l.length : Int) > 200
  · exact Ev.congr (fun k => by rw [hf, if_pos h1]) bad
  by_cases h2 : (l.length : Int) = 0
  · exact Ev.congr (fun k => by rw [hf, if_neg h1, if_pos h2]) bad
  by_cases h3 : ¬ (allF l).2 = 0
  · exact Ev.congr (fun k => by rw [hf, if_neg h1, if_neg h2, bne_iff_ne.mpr h3]) bad
  replace h3 : (allF l).2 = 0 := Decidable.not_not.mp h3
  refine Ev.congr (f := fun k => trivetlaw07_AdmitFlat.j0 k l a false) (fun k => by rw [hf, if_neg h1, if_neg h2, bne_eq_false_iff_eq.mpr h3]) ?_
  obtain ⟨-, hg⟩ := (allF_ok l).mp h3
  obtain ⟨hn, m, hm, em⟩ := mod_at a (n := l.length) (by omega) (by omega)
  have HN := Aside0.mk hn
  have EM := Aside0.mk em
  clear hn em
  have hm4 : m < 4000000 := by omega
  have hsub : ∀ x ∈ l.take m ++ l.drop (m + 1), x ∈ l := fun x hx => (List.mem_append.mp hx).elim List.mem_of_mem_take List.mem_of_mem_drop
  have hlen : (l.take m ++ l.drop (m + 1)).length ≤ l.length := by simp; omega
  have hok : (allF (l.take m ++ l.drop (m + 1))).2 = 0 := (allF_ok _).mpr ⟨by omega, fun x hx => hg x (hsub x hx)⟩
  have hfl : flatAll l = true → flatAll (l.take m ++ l.drop (m + 1)) = true := fun h => (Adm.flat_iff hok).mpr (allflat_sub hsub ((Adm.flat_iff h3).mp h))
  have hul := unl_len h3
  have j1 : Ev (fun k => trivetlaw07_AdmitFlat.j1 k l (flatAll l) false) true := by
    refine Ev.step (f := fun k => trivetlaw07_AdmitFlat.l0 k l (flatAll l) (zi (unlAll l)) true 2) (fun k => ?_) ?_
    · rw [trivetlaw07_AdmitFlat.j1, if_neg (by decide), unlike_f hw]; rfl
    · by_cases h2u : 2 ≤ (unlAll l).length
      · have := on_loop hg (unl_lt l) (by omega) (flatAll l) ((unlAll l).length - 2) 2 true (by omega) (by omega)
        rw [Bool.true_and, ← flat_on h3, beq_self_eq_true] at this
        exact this
      · refine Ev.step (f := fun _ => some (flatAll l == true)) (fun k => ?_) ?_
        · rw [trivetlaw07_AdmitFlat.l0, if_neg (by rw [show (zi (unlAll l)).length = (unlAll l).length from List.length_map ..]; omega)]
        · have : flatAll l = true := by rw [flat_on h3]; unfold onAll; rw [List.drop_eq_nil_of_le (by omega)]; rfl
          rw [this]; exact Ev.now _
  have hwl : Wd (l.take m ++ l.drop (m + 1)) := fun x hx => hw x (hsub x hx)
  refine Ev.step (f := fun k => trivetlaw07_AdmitFlat.j1 k l (flatAll l) false) (fun k => ?_) j1
  rw [trivetlaw07_AdmitFlat.j0, if_neg (by decide), flat_f hw]
  simp only [Option.bind_some]
  rw [HN.out, if_neg h2, EM.out, wrap_at hm4]
  clear HN EM
  rw [if_pos (by omega), if_pos (by omega), Int.toNat_natCast, if_pos (by simp; omega), if_pos (by omega), if_pos (by omega), Int.toNat_natCast, List.nil_append, if_pos (by simp; omega)]
  cases hfa : flatAll l
  · rw [if_neg (by decide)]
  · rw [if_pos rfl, flat_f hwl, hfl hfa]; rfl
end Go.Proofs.YtioahkblhekgpaaGreatDoor.Pure
