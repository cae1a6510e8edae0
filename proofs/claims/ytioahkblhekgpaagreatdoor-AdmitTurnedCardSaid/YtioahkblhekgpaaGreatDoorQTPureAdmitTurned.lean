/- What the proof needs of PureAdmitTurned: only what is used is left (wip/tools/prune.py). Conditions stand in each sentence. -/
import Derived.Test.YtioahkblhekgpaaGreatDoorQTMAdmitTurned2
import Derived.Test.YtioahkblhekgpaaGreatDoorQTWrk
set_option linter.unusedVariables false
set_option linter.unusedSimpArgs false
namespace Go.Proofs.YtioahkblhekgpaaGreatDoor.Adm
end Go.Proofs.YtioahkblhekgpaaGreatDoor.Adm
namespace Go.Proofs.YtioahkblhekgpaaGreatDoor.E
end Go.Proofs.YtioahkblhekgpaaGreatDoor.E
namespace Go.Proofs.YtioahkblhekgpaaGreatDoor.FltP
end Go.Proofs.YtioahkblhekgpaaGreatDoor.FltP
namespace Go.Proofs.YtioahkblhekgpaaGreatDoor.MAdmitTurned
end Go.Proofs.YtioahkblhekgpaaGreatDoor.MAdmitTurned
namespace Go.Proofs.YtioahkblhekgpaaGreatDoor.O
end Go.Proofs.YtioahkblhekgpaaGreatDoor.O
namespace Go.Proofs.YtioahkblhekgpaaGreatDoor.R
end Go.Proofs.YtioahkblhekgpaaGreatDoor.R
namespace Go.Proofs.YtioahkblhekgpaaGreatDoorW.PrintLast
end Go.Proofs.YtioahkblhekgpaaGreatDoorW.PrintLast
namespace Go.Proofs.YtioahkblhekgpaaGreatDoorW.PrintWords
end Go.Proofs.YtioahkblhekgpaaGreatDoorW.PrintWords
namespace Go.Proofs.YtioahkblhekgpaaGreatDoor.Pure
open Go.RowKit Go.Proofs.YtioahkblhekgpaaGreatDoor.R Go.Proofs.YtioahkblhekgpaaGreatDoor.E Go.Proofs.YtioahkblhekgpaaGreatDoor.O Go.Proofs.YtioahkblhekgpaaGreatDoor.MAdmitTurned Go.Proofs.YtioahkblhekgpaaGreatDoor.FltP Go.Proofs.YtioahkblhekgpaaGreatDoorW.PrintWords Go.Proofs.YtioahkblhekgpaaGreatDoorW.PrintLast
open Go.Proofs.YtioahkblhekgpaaGreatDoor.Adm (S gp Wd WdB wd_to wd_of allF allF_ok flatAll unlAll unl_lt PT sgnAt zi ordAll twAll)
theorem all_f {l : List S} (h : Wd l) : admit_All.f l = some (allF l) := by unfold admit_All.f; rw [if_pos (wd_to h)]
theorem order_f {l : List S} (h : Wd l) : admit_Order.f l = some (zi (ordAll l)) := by unfold admit_Order.f; rw [if_pos (wd_to h)]
theorem twins_f {l : List S} (h : Wd l) : admit_Twins.f l = some (zi (twAll l)) := by unfold admit_Twins.f; rw [if_pos (wd_to h)]
theorem unlike_f {l : List S} (h : Wd l) : admit_Unlike.f l = some (zi (unlAll l)) := by unfold admit_Unlike.f; rw [if_pos (wd_to h)]
theorem flat_f {l : List S} (h : Wd l) : admit_Flat.f l = some (flatAll l) := by unfold admit_Flat.f; rw [if_pos (wd_to h)]
theorem wrap64_in (n : Int) (h : -9223372036854775808 ≤ n ∧ n ≤ 9223372036854775807) : wrap64 n = n := by unfold wrap64; omega
theorem works_f : trivetlaw07_works.f = some true := by
  have hw : Wd Adm.ex1 := wd_of (by decide +kernel)
  have hw2 : Wd Adm.ex2 := wd_of (by decide +kernel)
  have o := order_f hw
  have t := twins_f hw
  have u := unlike_f hw
  have f1 := flat_f hw
  have f2 := flat_f hw2
  rw [Adm.ex1_o] at o
  rw [Adm.ex1_t] at t
  rw [Adm.ex1_u] at u
  rw [Adm.ex1_f] at f1
  rw [Adm.ex2_f] at f2
  unfold Adm.ex1 at o t u f1
  unfold Adm.ex2 at f2
  unfold trivetlaw07_works.f
  simp only [Option.bind_some, o, t, u, f1, f2]
  decide
theorem rd_zi {u : List Nat} {i : Nat} (h : i < u.length) : rd (zi u) (i : Int) = (u.getD i 0 : Nat) := by
  simp [rd, List.getD_eq_getElem?_getD, List.getElem?_eq_getElem h]
theorem wrap_at {i : Nat} (h : i < 4000000) : wrap64 ((i : Int) + 1) = ((i + 1 : Nat) : Int) := by rw [wrap64_in _ (by omega)]; rfl
theorem getD_mem {u : List Nat} {i : Nat} (h : i < u.length) : u.getD i 0 ∈ u := by
  rw [List.getD_eq_getElem?_getD, List.getElem?_eq_getElem h]; exact List.getElem_mem h
theorem mod_at {n : Nat} (a : Int) (h0 : 0 < n) (h1 : n ≤ 200) : IntKind.u64.wrap (n : Int) = (n : Int) ∧ ∃ m : Nat, m < n ∧ wrap64 (Int.tmod (IntKind.u64.wrap a) (n : Int)) = (m : Int) := by
  have hu : ∀ z : Int, IntKind.u64.wrap z = z % 18446744073709551616 := fun z => by simp [IntKind.wrap, IntKind.signed, IntKind.bits]
  have hn : IntKind.u64.wrap (n : Int) = (n : Int) := by rw [hu]; omega
  refine ⟨hn, ?_⟩
  rw [hu a]
  obtain ⟨b, hb⟩ := Int.eq_ofNat_of_zero_le (Int.emod_nonneg a (show (18446744073709551616 : Int) ≠ 0 by decide))
  rw [hb]
  refine ⟨b % n, Nat.mod_lt _ h0, ?_⟩
  have : b % n < n := Nat.mod_lt _ h0
  have e : Int.tmod ((b : Nat) : Int) (n : Int) = ((b % n : Nat) : Int) := rfl
  rw [e, wrap64_in _ (by omega)]
theorem PT_mem {l : List S} {i : Nat} (h : i < l.length) : ∃ x ∈ l, PT l i = (fval x.f0, fval x.f1) := ⟨_, Adm.rd_at h, rfl⟩
theorem PT_of {l : List S} {x : S} (h : x ∈ l) : ∃ i, i < l.length ∧ PT l i = (fval x.f0, fval x.f1) := by
  obtain ⟨i, hi, rfl⟩ := List.getElem_of_mem h
  exact ⟨i, hi, by unfold PT; rw [Adm.rd_get hi]⟩
theorem allflat_sub {l m : List S} (hs : ∀ x ∈ m, x ∈ l) (h : Geo.AllFlat (PT l) l.length) : Geo.AllFlat (PT m) m.length := by
  intro a ha b hb c hc
  obtain ⟨x, hx, ex⟩ := PT_mem ha
  obtain ⟨y, hy, ey⟩ := PT_mem hb
  obtain ⟨z, hz, ez⟩ := PT_mem hc
  obtain ⟨i, hi, ei⟩ := PT_of (hs _ hx)
  obtain ⟨j, hj, ej⟩ := PT_of (hs _ hy)
  obtain ⟨k, hk, ek⟩ := PT_of (hs _ hz)
  rw [ex, ey, ez, ← ei, ← ej, ← ek]
  exact h i hi j hj k hk
theorem eq_of_perm {R : Geo.Pt → Geo.Pt → Prop} (anti : ∀ a b, R a b → R b a → a = b) : ∀ {a b : List Geo.Pt}, a.Pairwise R → b.Pairwise R → a.Perm b → a = b
  | [], b, _, _, h => (List.Perm.nil_eq h)
  | x :: a, [], _, _, h => absurd h.symm.nil_eq (by simp)
  | x :: a, y :: b, ha, hb, h => by
    obtain ⟨ha1, ha2⟩ := List.pairwise_cons.mp ha
    obtain ⟨hb1, hb2⟩ := List.pairwise_cons.mp hb
    have e : x = y := by
      rcases List.mem_cons.mp (h.subset (List.mem_cons_self (a := x) (l := a))) with e | e
      · exact e
      · rcases List.mem_cons.mp (h.symm.subset (List.mem_cons_self (a := y) (l := b))) with e' | e'
        · exact e'.symm
        · exact anti _ _ (ha1 _ e') (hb1 _ e)
    subst e
    rw [eq_of_perm anti ha2 hb2 h.cons_inv]
def seqP (l : List S) : List Geo.Pt := (Adm.orderN l).map (PT l)
theorem seq_sorted (l : List S) : (seqP l).Pairwise fun p q => ¬ Geo.Ahead q p := by
  unfold seqP
  refine List.Pairwise.map _ (fun a b h => ?_) (Adm.orderN_sorted l).1
  rcases h with h | h
  · exact h.asymm
  · rw [h.1]; exact Geo.Ahead.irrefl _
def pv (x : S) : Geo.Pt := (fval x.f0, fval x.f1)
theorem range_map (l : List S) : (List.range l.length).map (PT l) = l.map pv := by
  apply List.ext_getElem
  · simp
  · intro i h1 h2
    have hi : i < l.length := by simpa using h2
    simp only [List.getElem_map, List.getElem_range]
    unfold PT
    rw [Adm.rd_get hi]; rfl
theorem seq_perm (l : List S) : (seqP l).Perm (l.map pv) := by
  rw [← range_map]
  unfold seqP
  refine List.Perm.map _ ((List.perm_ext_iff_of_nodup (Geo.lt_nodup (Adm.orderN_sorted l).1) List.nodup_range).mpr fun x => ?_)
  rw [(Adm.orderN_sorted l).2, List.mem_range]
theorem seq_eq {l m : List S} (h : l.Perm m) : seqP l = seqP m :=
  eq_of_perm (fun a b h1 h2 => by rcases Geo.ahead_total a b with k | k | k; exact absurd k h2; exact k; exact absurd k h1) (seq_sorted l) (seq_sorted m) (((seq_perm l).trans (h.map pv)).trans (seq_perm m).symm)
theorem runs_len {P Q : Nat → Geo.Pt} : ∀ (o o' : List Nat) (p p' : Nat), P p = Q p' → o.map P = o'.map Q → (Geo.runs P p o).length = (Geo.runs Q p' o').length
  | [], [], _, _, _, _ => rfl
  | [], _ :: _, _, _, _, h => by simp at h
  | _ :: _, [], _, _, _, h => by simp at h
  | x :: o, y :: o', p, p', hp, h => by
    simp only [List.map_cons, List.cons.injEq] at h
    unfold Geo.runs
    by_cases hx : P x = P p
    · rw [if_pos hx, if_pos (by rw [← h.1, ← hp]; exact hx)]; exact runs_len o o' x y h.1 h.2
    · rw [if_neg hx, if_neg (by rw [← h.1, ← hp]; exact hx), List.length_cons, List.length_cons, runs_len o o' x y h.1 h.2]
theorem compact_len {P Q : Nat → Geo.Pt} : ∀ (o o' : List Nat), o.map P = o'.map Q → (Geo.compact P o).length = (Geo.compact Q o').length
  | [], [], _ => rfl
  | [], _ :: _, h => by simp at h
  | _ :: _, [], h => by simp at h
  | x :: o, y :: o', h => by
    simp only [List.map_cons, List.cons.injEq] at h
    show (x :: Geo.runs P x o).length = (y :: Geo.runs Q y o').length
    rw [List.length_cons, List.length_cons, runs_len o o' x y h.1 h.2]
theorem unl_same {l m : List S} (h : l.Perm m) (h1 : (allF l).2 = 0) (h2 : (allF m).2 = 0) : (unlAll l).length = (unlAll m).length := by
  unfold unlAll ordAll
  rw [if_pos h1, if_pos h2]
  exact compact_len _ _ (seq_eq h)
theorem flat_same {l m : List S} (h : l.Perm m) (h1 : (allF l).2 = 0) (h2 : (allF m).2 = 0) : flatAll l = flatAll m :=
  Adm.flat_eq h1 h2 ⟨allflat_sub fun x hx => h.symm.subset hx, allflat_sub fun x hx => h.subset hx⟩
def rot (l : List S) (s i : Nat) : List S := (List.range i).map fun j => rd_T32 l (((j + s) % l.length : Nat) : Int)
theorem rot_all {l : List S} {s : Nat} (hs : s < l.length) : rot l s l.length = l.drop s ++ l.take s := by
  unfold rot
  apply List.ext_getElem
  · simp; omega
  · intro j h1 h2
    have hj : j < l.length := by simpa using h1
    simp only [List.getElem_map, List.getElem_range]
    rw [Adm.rd_get (Nat.mod_lt _ (by omega))]
    by_cases hlt : j + s < l.length
    · rw [List.getElem_append_left (by simp; omega), List.getElem_drop]
      congr 1
      rw [Nat.mod_eq_of_lt hlt]; omega
    · rw [List.getElem_append_right (by simp; omega), List.getElem_take]
      congr 1
      rw [Nat.mod_eq_sub_mod (by omega), Nat.mod_eq_of_lt (by omega)]
      simp; omega
theorem rot_perm {l : List S} {s : Nat} (hs : s < l.length) : l.Perm (rot l s l.length) := by
  rw [rot_all hs]
  exact (List.Perm.of_eq (List.take_append_drop s l).symm).trans List.perm_append_comm
theorem rot_succ (l : List S) (s i : Nat) : rot l s (i + 1) = rot l s i ++ [rd_T32 l (((i + s) % l.length : Nat) : Int)] := by unfold rot; rw [List.range_succ, List.map_append]; rfl
theorem pts_at {l : List S} {i : Nat} (h : i < l.length) : (seqP l)[i]? = some (PT l ((Adm.orderN l).getD i 0)) := by
  have hl := (Adm.orderN_sorted l).length
  unfold seqP
  rw [List.getElem?_map, List.getElem?_eq_getElem (by omega), List.getD_eq_getElem?_getD, List.getElem?_eq_getElem (by omega)]
  rfl
theorem cmp_zero {l m : List S} {a b : Nat} (hwl : Wd l) (hwm : Wd m) (hgl : ∀ x ∈ l, gp x = true) (hgm : ∀ x ∈ m, gp x = true) (ha : a < l.length) (hb : b < m.length) (he : PT l a = PT m b) :
    Ev (fun k => admit_Cmp.f k (rd_T32 l (a : Int)).f0 (rd_T32 l (a : Int)).f1 (rd_T32 m (b : Int)).f0 (rd_T32 m (b : Int)).f1) 0 := by
  have wa := hwl _ (Adm.rd_at ha)
  have wb := hwm _ (Adm.rd_at hb)
  have h := cmp_ev' wa.1 wa.2 wb.1 wb.2
  rw [if_pos ⟨hgl _ (Adm.rd_at ha), hgm _ (Adm.rd_at hb)⟩] at h
  have : hold (rd_T32 l (a : Int)).f0 (rd_T32 l (a : Int)).f1 (rd_T32 m (b : Int)).f0 (rd_T32 m (b : Int)).f1 = 0 := by
    have e := Prod.mk.inj he
    unfold hold
    rw [e.1, e.2]
    simp [sgn3]
  rw [this] at h
  exact h
theorem l1_loop {l m : List S} (hp : l.Perm m) (hwl : Wd l) (hwm : Wd m) (h1 : (allF l).2 = 0) (h2 : (allF m).2 = 0) : ∀ (d i : Nat), l.length = i + d →
    Ev (fun k => trivetlaw07_AdmitTurned.l1 k l m (zi (Adm.orderN l)) (zi (Adm.orderN m)) (i : Int)) true
  | 0, i, hd => by
    have hz : (zi (Adm.orderN l)).length = l.length := (List.length_map ..).trans (Adm.orderN_sorted l).length
    refine Ev.step (f := fun _ => some true) (fun k => ?_) (Ev.now _)
    rw [trivetlaw07_AdmitTurned.l1, if_neg (by rw [hz]; omega), flat_f hwl, flat_f hwm, unlike_f hwl, unlike_f hwm]
    simp only [Option.bind_some]
    rw [flat_same hp h1 h2, if_pos (by rw [beq_self_eq_true]), show (zi (unlAll l)).length = (unlAll l).length from List.length_map .., show (zi (unlAll m)).length = (unlAll m).length from List.length_map .., unl_same hp h1 h2, beq_self_eq_true]
  | d + 1, i, hd => by
    have hlm : l.length = m.length := hp.length_eq
    have ol := (Adm.orderN_sorted l).length
    have om := (Adm.orderN_sorted m).length
    have hz : (zi (Adm.orderN l)).length = l.length := (List.length_map ..).trans ol
    have hz' : (zi (Adm.orderN m)).length = m.length := (List.length_map ..).trans om
    have ih := l1_loop hp hwl hwm h1 h2 d (i + 1) (by omega)
    obtain ⟨h20, hgl⟩ := (allF_ok l).mp h1
    obtain ⟨_, hgm⟩ := (allF_ok m).mp h2
    have a1 : (Adm.orderN l).getD i 0 < l.length := ((Adm.orderN_sorted l).2 _).mp (getD_mem (by omega))
    have a2 : (Adm.orderN m).getD i 0 < m.length := ((Adm.orderN_sorted m).2 _).mp (getD_mem (by omega))
    have e1 := rd_zi (u := Adm.orderN l) (i := i) (by omega)
    have e2 := rd_zi (u := Adm.orderN m) (i := i) (by omega)
    have hi4 : i < 4000000 := by omega
    have he : PT l ((Adm.orderN l).getD i 0) = PT m ((Adm.orderN m).getD i 0) := by
      have p1 := pts_at (l := l) (i := i) (by omega)
      have p2 := pts_at (l := m) (i := i) (by omega)
      rw [seq_eq hp, p2] at p1
      exact (Option.some.inj p1).symm
    refine Ev.step (f := fun k => (admit_Cmp.f k (rd_T32 l ((Adm.orderN l).getD i 0 : Nat)).f0 (rd_T32 l ((Adm.orderN l).getD i 0 : Nat)).f1 (rd_T32 m ((Adm.orderN m).getD i 0 : Nat)).f0 (rd_T32 m ((Adm.orderN m).getD i 0 : Nat)).f1).bind fun t => if t = 0 then trivetlaw07_AdmitTurned.l1 k l m (zi (Adm.orderN l)) (zi (Adm.orderN m)) ((i + 1 : Nat) : Int) else some false) (fun k => ?_) (Ev.bind (cmp_zero hwl hwm hgl hgm a1 a2 he) (by simpa using ih))
    rw [trivetlaw07_AdmitTurned.l1, if_pos (by rw [hz]; omega), if_pos (by omega), e1, e2, if_pos (by omega), if_pos (by omega), if_pos (by rw [hz']; omega), if_pos (by omega), if_pos (by omega), wrap_at hi4]
theorem idx_at {n s : Nat} (i : Nat) (h0 : 0 < n) (hn : n ≤ 200) (hs : s < n) (hi : i < n) : Int.tmod (wrap64 ((i : Int) + (s : Int))) (n : Int) = (((i + s) % n : Nat) : Int) := by
  rw [wrap64_in _ (by omega)]; rfl
theorem l0_loop {l : List S} (a : Int) {s : Nat} (h0 : 0 < l.length) (hn : l.length ≤ 200) (hs : s < l.length) (hu : Aside0 (IntKind.u64.wrap (l.length : Int) = (l.length : Int))) (em : Aside0 (wrap64 (Int.tmod (IntKind.u64.wrap a) (l.length : Int)) = (s : Int))) (hwl : Wd l) (h1 : (allF l).2 = 0) : ∀ (d i : Nat), l.length = i + d →
    Ev (fun k => trivetlaw07_AdmitTurned.l0 k l a (rot l s i) (i : Int)) true
  | 0, i, hd => by
    have hp := rot_perm hs
    obtain rfl : i = l.length := by omega
    obtain ⟨h20, hg⟩ := (allF_ok l).mp h1
    have h2 : (allF (rot l s l.length)).2 = 0 := (allF_ok _).mpr ⟨by rw [← hp.length_eq]; omega, fun x hx => hg x (hp.symm.subset hx)⟩
    have hwm : Wd (rot l s l.length) := fun x hx => hwl x (hp.symm.subset hx)
    refine Ev.step (f := fun k => trivetlaw07_AdmitTurned.l1 k l (rot l s l.length) (zi (Adm.orderN l)) (zi (Adm.orderN (rot l s l.length))) 0) (fun k => ?_) (l1_loop hp hwl hwm h1 h2 l.length 0 (by omega))
    rw [trivetlaw07_AdmitTurned.l0, if_neg (by omega), order_f hwl, order_f hwm]
    simp only [Option.bind_some]
    unfold ordAll
    rw [if_pos h1, if_pos h2]
  | d + 1, i, hd => by
    have ih := l0_loop a h0 hn hs hu em hwl h1 d (i + 1) (by omega)
    have hi4 : i < 4000000 := by omega
    have hlt : i < l.length := by omega
    have hr : (rot l s i).length = i := by unfold rot; simp
    have hm : (i + s) % l.length < l.length := Nat.mod_lt _ h0
    refine Ev.step (f := fun k => trivetlaw07_AdmitTurned.l0 k l a (rot l s (i + 1)) ((i + 1 : Nat) : Int)) (fun k => ?_) ih
    rw [trivetlaw07_AdmitTurned.l0, if_pos (by omega), hu.out, if_neg (by omega), if_neg (by omega), em.out, idx_at i h0 hn hs hlt, if_pos (by omega), if_pos (by omega), if_pos (by rw [hr]; omega), wrap_at hi4, rot_succ]
theorem AdmitTurned (l : List S) (a : Int) (hw : Wd l) (_ : (Lit.int .i64 a).wf = true) : ∃ k, trivetlaw07_AdmitTurned.f k l a = some true := by
  refine Ev.rounds (r := true) ?_
  have bad : Ev (fun k => trivetlaw07_AdmitTurned.j0 k l a true) true := by
    refine Ev.step (f := fun _ => some true) (fun k => ?_) (Ev.now _)
    rw [trivetlaw07_AdmitTurned.j0, if_pos rfl, works_f]; rfl
  have hf : ∀ k, trivetlaw07_AdmitTurned.f k l a = (if (l.length : Int) > 200 then (trivetlaw07_AdmitTurned.j0 k l a true) else (if (l.length : Int) = 0 then (trivetlaw07_AdmitTurned.j0 k l a true) else (trivetlaw07_AdmitTurned.j0 k l a ((allF l).2 != 0)))) := fun k => by
    unfold trivetlaw07_AdmitTurned.f
    rw [all_f hw, works_f]; simp only [Option.bind_some]
    rw [if_pos trivial]
  by_cases h1 : (l.length : Int) > 200
  · exact Ev.congr (fun k => by rw [hf, if_pos h1]) bad
  by_cases h2 : (l.length : Int) = 0
  · exact Ev.congr (fun k => by rw [hf, if_neg h1, if_pos h2]) bad
  by_cases h3 : ¬ (allF l).2 = 0
  · exact Ev.congr (fun k => by rw [hf, if_neg h1, if_neg h2, bne_iff_ne.mpr h3]) bad
  replace h3 : (allF l).2 = 0 := Decidable.not_not.mp h3
  refine Ev.congr (f := fun k => trivetlaw07_AdmitTurned.j0 k l a false) (fun k => by rw [hf, if_neg h1, if_neg h2, bne_eq_false_iff_eq.mpr h3]) ?_
  obtain ⟨hn, m, hm, em⟩ := mod_at a (n := l.length) (by omega) (by omega)
  have HN := Aside0.mk hn
  have EM := Aside0.mk em
  clear hn em
  refine Ev.step (f := fun k => trivetlaw07_AdmitTurned.l0 k l a [] 0) (fun k => ?_) (l0_loop a (by omega) (by omega) hm HN EM hw h3 l.length 0 (by omega))
  rw [trivetlaw07_AdmitTurned.j0, if_neg (by decide)]
end Go.Proofs.YtioahkblhekgpaaGreatDoor.Pure
