/- What the proof needs of Unl, Unw: only what is used is left (wip/tools/prune.py). Conditions stand in each sentence. -/
import Derived.Deep.QuietTactic
import Derived.Deep.LoopGhost
import Derived.Lib.SliceRun
import Derived.Test.YtioahkblhekgpaaGreatDoorQKOrw
set_option linter.unusedVariables false
set_option linter.unusedSimpArgs false
namespace Go.Proofs.YtioahkblhekgpaaGreatDoor.E
end Go.Proofs.YtioahkblhekgpaaGreatDoor.E
namespace Go.Proofs.YtioahkblhekgpaaGreatDoor.FltP
end Go.Proofs.YtioahkblhekgpaaGreatDoor.FltP
namespace Go.Proofs.YtioahkblhekgpaaGreatDoor.O
end Go.Proofs.YtioahkblhekgpaaGreatDoor.O
namespace Go.Proofs.YtioahkblhekgpaaGreatDoor.R
end Go.Proofs.YtioahkblhekgpaaGreatDoor.R
namespace Go.Proofs.YtioahkblhekgpaaGreatDoorW.PrintLast
end Go.Proofs.YtioahkblhekgpaaGreatDoorW.PrintLast
namespace Go.Proofs.YtioahkblhekgpaaGreatDoorW.PrintMore
end Go.Proofs.YtioahkblhekgpaaGreatDoorW.PrintMore
namespace Go.Proofs.YtioahkblhekgpaaGreatDoorW.PrintWords
end Go.Proofs.YtioahkblhekgpaaGreatDoorW.PrintWords
namespace Go.Proofs.YtioahkblhekgpaaGreatDoor.Adm
open Go.RowKit Go.Proofs.YtioahkblhekgpaaGreatDoor.FltP Go.Proofs.YtioahkblhekgpaaGreatDoor.R Go.Proofs.YtioahkblhekgpaaGreatDoor.E Go.Proofs.YtioahkblhekgpaaGreatDoor.O Go.Proofs.YtioahkblhekgpaaGreatDoorW.PrintWords Go.Proofs.YtioahkblhekgpaaGreatDoorW.PrintLast Go.Proofs.YtioahkblhekgpaaGreatDoorW.PrintMore
theorem eqFlt (d : Nat) (t : TypeId) (a b : Nat) (w : World) (h : Tryz.prog.underlying t = some (.float .f64)) : (Op.equalIn (d + 1) t (.float .f64 a) (.float .f64 b)).run Tryz.prog w = .ok (FloatKind.f64.format.order a b == some .eq) w := by
 simp [Op.equalIn, run_underlying h, Op.floatEq]
theorem eqPt (d : Nat) (w : World) (x0 y0 x1 y1 : Nat) :
 (Op.equalIn (d + 2) 32 (.agg #[.float .f64 x0, .float .f64 x1]) (.agg #[.float .f64 y0, .float .f64 y1])).run Tryz.prog w = .ok ((FloatKind.f64.format.order x0 y0 == some .eq) && (FloatKind.f64.format.order x1 y1 == some .eq)) w := by
 refine eqA_of Tryz.underlying32 (by kernel_rfl) ?_
 refine eqf_cons (by rfl) (by first | (go_simp; done) | (go_simp; rfl)) (by first | (go_simp; done) | (go_simp; rfl)) (eqFlt _ _ _ _ _ Tryz.underlying30) ?_
 exact eqf_last (by rfl) (by first | (go_simp; done) | (go_simp; rfl)) (by first | (go_simp; done) | (go_simp; rfl)) (eqFlt _ _ _ _ _ Tryz.underlying30)
attribute [local go_sem high] eqPt
def alikeAt (l : List S) (a b : Nat) : Bool := decide (PT l a = PT l b)
theorem alike_words {x y : S} (h : Fini x.f0 ∧ Fini x.f1) (k : Fini y.f0 ∧ Fini y.f1) : ((FloatKind.f64.format.order x.f0 y.f0 == some .eq) && (FloatKind.f64.format.order x.f1 y.f1 == some .eq)) = decide ((fval x.f0, fval x.f1) = (fval y.f0, fval y.f1)) := by
 rw [eq_fin h.1 k.1, eq_fin h.2 k.2]
 simp [Prod.mk.injEq]
set_option maxRecDepth 100000 in
set_option maxHeartbeats 1000000 in
theorem unlike_closure (A : Option Addr) (c : Nat) (l : List S) (B a b : Nat) (ha : a < l.length) (hb : b < l.length) (hf : Fin2 l) (W : World) (hbox : W.cell? ⟨B, 0, none⟩ = some (.slice A l.length c)) (hl : Kd.C k32 W A l.length l) :
 Calls Tryz.prog 51 #[.int .i64 a, .int .i64 b, .pointer (some ⟨B, 0, none⟩)] W fun e w' => e = .returned (.bool (alikeAt l a b)) ∧ ∃ n, w' = W.drewN n := by
 have hu32 := Tryz.underlying32
 have hm := hl.2.1
 have hal := alike_words (hf _ (rd_at ha)) (hf _ (rd_at hb))
 have hal' : alikeAt l a b = decide ((fval (rd_T32 l (a : Int)).f0, fval (rd_T32 l (a : Int)).f1) = (fval (rd_T32 l (b : Int)).f0, fval (rd_T32 l (b : Int)).f1)) := rfl
 rw [← hal'] at hal
 clear hal'
 rw [← hal]
 clear hal
 have d1 : decide (a < l.length) = true := by simp; omega
 have d2 : decide (b < l.length) = true := by simp; omega
 have d1' : decide ((a : Int) < (l.length : Int)) = true := by simp; omega
 have d2' : decide ((b : Int) < (l.length : Int)) = true := by simp; omega
 have e1 : decide ((0 : Int) ≤ a) = true := by simp
 have e2 : decide ((0 : Int) ≤ b) = true := by simp
 obtain ⟨ad, rfl, hx0, hx1⟩ := at_T32 hl a (by omega) (by omega)
 obtain ⟨bd, hbd, hy0, hy1⟩ := at_T32 hl b (by omega) (by omega)
 injection hbd with hbd
 subst hbd
 rw [Int.toNat_natCast] at hx0 hx1 hy0 hy1
 generalize rd_T32 l (a : Int) = x at *
 generalize rd_T32 l (b : Int) = y at *
 go_enter Tryz.func51, Tryz.ntmps51
 go_wp2
 go_quiet (fail)
 go_wp2
 go_ret
 exact ⟨rfl, _, rfl⟩
abbrev zi (ys : List Nat) : List Int := ys.map fun (n : Nat) => (n : Int)
theorem R_prefix {w : World} {B g n cap kk : Nat} {zs : List Int} (h : Kd.R (Kd.int .i64) 3 w B (fun _ => True) (.slice (some ⟨g, 0, none⟩) n cap) zs) (hk : kk ≤ n) : Kd.R (Kd.int .i64) 3 w B (fun _ => True) (.slice (some ⟨g, 0, none⟩) kk cap) (zs.take kk) := by
 obtain ⟨rfl, _⟩ := Kd.R_reads' h
 have ho := Kd.own_of_R h
 have hl : (zs.take kk).length = kk := by rw [List.length_take]; omega
 refine Kd.R_of_own ?_ (fun _ _ => trivial)
 rw [hl]
 rcases ho.2 with ⟨h0, _⟩ | ⟨g', cap', cur, hv, hb, hh, h1, h2, h3, h4⟩
 ·cases h0
 ·cases hv
  refine ⟨by rw [encs_length, hl, Nat.mul_one], .inr ⟨g, cap, cur, rfl, hb, hh, Nat.le_trans hk h1, h2, h3, ?_⟩⟩
  rw [Nat.mul_one] at h4 ⊢
  have : (cur.toList.take zs.length).take kk = (encs (Value.int .i64) zs).take kk := by rw [h4]
  rw [List.take_take, Nat.min_eq_left hk] at this
  rw [this]; simp [encs, List.map_take]
theorem R_zeros {B g N cap : Nat} : ∀ (n o : Nat) (zs : List Int) (w : World), Kd.R (Kd.int .i64) 3 w B (fun _ => True) (.slice (some ⟨g, 0, none⟩) N cap) zs → ∃ zs', Kd.R (Kd.int .i64) 3 (w.setCells g o (List.replicate n (.int .i64 0))) B (fun _ => True) (.slice (some ⟨g, 0, none⟩) N cap) zs' ∧ zs'.take o = zs.take o
 | 0, o, zs, w, h => ⟨zs, h, rfl⟩
 | n + 1, o, zs, w, h => by
  have h1 := Kd.R_putn h (o : Int) (0 : Int)
  rw [Int.toNat_natCast] at h1
  obtain ⟨zs', h2, h3⟩ := R_zeros n (o + 1) _ _ h1
  refine ⟨zs', h2, ?_⟩
  have := congrArg (List.take o) h3
  rw [List.take_take, List.take_take, Nat.min_eq_left (Nat.le_succ o)] at this
  rw [this, List.take_set_of_le (Nat.le_refl _)]
theorem below_setCells {B g : Nat} (hg : B ≤ g) : ∀ (vs : List Value) (o : Nat) (w0 w : World), Below B w0 w → Below B w0 (w.setCells g o vs)
 | [], _, _, _, h => h
 | v :: vs, o, w0, w, h => below_setCells hg vs (o + 1) w0 _ (h.setCell (by exact hg) v)
theorem compact_step {P : Nat → Geo.Pt} {ys : List Nat} {k : Nat} (h : Geo.compact P ys = ys.take k ++ Geo.runs P (ys.getD (k - 1) 0) (ys.drop k)) (hk : k < ys.length) (hne : P (ys.getD k 0) ≠ P (ys.getD (k - 1) 0)) :
 Geo.compact P ys = ys.take (k + 1) ++ Geo.runs P (ys.getD (k + 1 - 1) 0) (ys.drop (k + 1)) := by
 rw [h, List.drop_eq_getElem_cons hk, Geo.runs, List.take_add_one, List.getElem?_eq_getElem hk]
 rw [show ys.getD k 0 = ys[k] from by rw [List.getD_eq_getElem?_getD, List.getElem?_eq_getElem hk]; rfl] at hne
 rw [if_neg hne, Nat.add_sub_cancel, List.getD_eq_getElem?_getD, List.getElem?_eq_getElem hk, List.append_assoc]
 rfl
structure Mv (P : Nat → Geo.Pt) (ys zs : List Nat) (kk j : Nat) : Prop where
 len : zs.length = ys.length
 lt : kk < j
 le : j ≤ ys.length
 res : Geo.compact P ys = zs.take kk ++ Geo.runs P (ys.getD (j - 1) 0) (ys.drop j)
 high : ∀ i, j - 1 ≤ i → zs.getD i 0 = ys.getD i 0
theorem Mv.start {P : Nat → Geo.Pt} {ys : List Nat} {k : Nat} (h : Geo.compact P ys = ys.take k ++ Geo.runs P (ys.getD (k - 1) 0) (ys.drop k)) (hk : k < ys.length) (he : P (ys.getD k 0) = P (ys.getD (k - 1) 0)) : Mv P ys ys k (k + 1) := by
 refine ⟨rfl, Nat.lt_succ_self _, hk, ?_, fun _ _ => rfl⟩
 rw [h, List.drop_eq_getElem_cons hk, Geo.runs]
 have e : ys.getD k 0 = ys[k] := by rw [List.getD_eq_getElem?_getD, List.getElem?_eq_getElem hk]; rfl
 rw [e] at he
 rw [if_pos he, Nat.add_sub_cancel, e]
theorem Mv.skip {P : Nat → Geo.Pt} {ys zs : List Nat} {kk j : Nat} (h : Mv P ys zs kk j) (hj : j < ys.length) (he : P (ys.getD j 0) = P (ys.getD (j - 1) 0)) : Mv P ys zs kk (j + 1) := by
 refine ⟨h.len, Nat.lt_succ_of_lt h.lt, hj, ?_, fun i hi => h.high i (by omega)⟩
 have e : ys.getD j 0 = ys[j] := by rw [List.getD_eq_getElem?_getD, List.getElem?_eq_getElem hj]; rfl
 rw [e] at he
 rw [h.res, List.drop_eq_getElem_cons hj, Geo.runs, if_pos he, Nat.add_sub_cancel, e]
theorem Mv.keep {P : Nat → Geo.Pt} {ys zs : List Nat} {kk j : Nat} (h : Mv P ys zs kk j) (hj : j < ys.length) (he : P (ys.getD j 0) ≠ P (ys.getD (j - 1) 0)) : Mv P ys (zs.set kk (ys.getD j 0)) (kk + 1) (j + 1) := by
 have hlt := h.lt
 have hlen := h.len
 refine ⟨by rw [List.length_set]; exact h.len, by omega, hj, ?_, fun i hi => ?_⟩
 ·have e : ys.getD j 0 = ys[j] := by rw [List.getD_eq_getElem?_getD, List.getElem?_eq_getElem hj]; rfl
  rw [e] at he ⊢
  rw [h.res, List.drop_eq_getElem_cons hj, Geo.runs, if_neg he, Nat.add_sub_cancel, e, List.take_add_one, List.getElem?_set_self (by omega), List.take_set_of_le (Nat.le_refl _)]
  simp
 ·rw [← h.high i (by omega), List.getD_eq_getElem?_getD, List.getElem?_set_ne (by omega), List.getD_eq_getElem?_getD]
structure Cm (w wr : World) (g cap : Nat) (bv : Value) (zs : List Nat) : Prop where
 row : Kd.R (Kd.int .i64) 3 wr w.heap.size (fun _ => True) (.slice (some ⟨g, 0, none⟩) zs.length cap) (zi zs)
 bel : Below w.heap.size w wr
 le : w.heap.size + 1 ≤ g
 box : wr.heap[w.heap.size]? = some (.cells #[bv] 22 (0, 0))
theorem zi_get {zs : List Nat} {i : Nat} (h : i < zs.length) : (zi zs)[i]?.getD 0 = ((zs.getD i 0 : Nat) : Int) := by
 rw [List.getElem?_map, List.getD_eq_getElem?_getD, List.getElem?_eq_getElem h]; rfl
section
variable {w wr : World} {g cap : Nat} {bv : Value} {zs : List Nat}
theorem Cm.drewN (h : Cm w wr g cap bv zs) (n : Nat) : Cm w (wr.drewN n) g cap bv zs := ⟨Kd.R_drewN h.row n, pw_below_drewN h.bel n, h.le, h.box⟩
theorem Cm.cell (h : Cm w wr g cap bv zs) {i : Nat} (hi : i < zs.length) : wr.cell? ⟨g, i, none⟩ = some (.int .i64 (zs.getD i 0 : Nat)) ∧ wr.frozen? ⟨g, i, none⟩ = false := by
 have := Kd.R_celln (0 : Int) h.row (i : Int) (by omega) (by omega)
 rw [Int.toNat_natCast, rdOf, Int.toNat_natCast, List.getD_eq_getElem?_getD, zi_get hi] at this
 exact this
theorem Cm.set (h : Cm w wr g cap bv zs) (i x : Nat) : Cm w (wr.setCell ⟨g, i, none⟩ (.int .i64 x)) g cap bv (zs.set i x) := by
 have h1 := Kd.R_putn h.row (i : Int) (x : Int)
 rw [Int.toNat_natCast] at h1
 refine ⟨?_, h.bel.setCell (by show w.heap.size ≤ g; have := h.le; omega) _, h.le, by rw [Below.heap_setCell _ _ _ _ (by show w.heap.size ≠ g; have := h.le; omega)]; exact h.box⟩
 rw [List.length_set, zi, List.map_set]; exact h1
theorem Cm.cut (h : Cm w wr g cap bv zs) {kk n : Nat} (hk : kk ≤ zs.length) : Kd.R (Kd.int .i64) 3 (wr.setCells g kk (List.replicate n (.int .i64 0))) w.heap.size (fun _ => True) (.slice (some ⟨g, 0, none⟩) kk cap) (zi (zs.take kk)) ∧ Below w.heap.size w (wr.setCells g kk (List.replicate n (.int .i64 0))) := by
 obtain ⟨zs', h1, h2⟩ := R_zeros n kk _ _ h.row
 have h3 := R_prefix h1 hk
 rw [h2] at h3
 rw [zi, List.map_take]
 exact ⟨h3, below_setCells (by have := h.le; omega) _ _ _ _ h.bel⟩
end
theorem wrap_pred' {k k' : Nat} (h1 : 1 ≤ k) (h2 : k ≤ 1048576) (h : k - 1 = k') : IntKind.i64.wrap ((k : Int) - 1) = (k' : Int) := by
 simp only [IntKind.wrap]; simp [IntKind.signed, IntKind.bits]; omega
theorem run_clearI (W : World) (ty : TypeId) (b o n c : Nat) (hn : 0 < n) (hc : ∀ j, j < n → (W.cell? ⟨b, o + j, none⟩).isSome = true) (hf : ∀ j, j < n → W.frozen? ⟨b, o + j, none⟩ = false) :
 (Builtin.clear_ #[26] ty #[.slice (some ⟨b, o, none⟩) n c]).run Tryz.prog W = .ok (.tuple #[]) (W.setCells b o (List.replicate n (.int .i64 0))) :=
 Lib.run_clear_slice W _ _ ty (.int .i64 0) Tryz.underlying26 Tryz.zeroValue3 rfl rfl b o n c hn hc hf
theorem pair_call {w wr : World} {g cap : Nat} {A : Option Addr} {c : Nat} {l : List S} {zs : List Nat} (h : Cm w wr g cap (.slice A l.length c) zs) (hl : Kd.C k32 w A l.length l) (hf : Fin2 l) {a b : Nat} (ha : a < l.length) (hb : b < l.length) (n : Nat) :
 Calls Tryz.prog 51 #[.int .i64 a, .int .i64 b, .pointer (some ⟨w.heap.size, 0, none⟩)] (wr.drewN n) fun e w'' => e = .returned (.bool (alikeAt l a b)) ∧ ∃ m, w'' = wr.drewN m := by
 have h1 := h.drewN n
 exact Calls.quiet_of (unlike_closure A c l w.heap.size a b ha hb hf (wr.drewN n) ((blk_cell h1.box 0).trans rfl) (Kd.C_below hl h1.bel))
set_option maxRecDepth 1000000 in
set_option maxHeartbeats 4000000 in
theorem compact_calls {w w1 : World} {g cap : Nat} {A : Option Addr} {c : Nat} {l : List S} {ys : List Nat} (h : Cm w w1 g cap (.slice A l.length c) ys) (hl : Kd.C k32 w A l.length l) (hf : Fin2 l) (hy : ∀ y ∈ ys, y < l.length) (h20 : ys.length ≤ 1048576) (hcap : ys.length ≤ cap) :
 Calls Tryz.prog 50 #[.slice (some ⟨g, 0, none⟩) ys.length cap, .func (.func 51) #[] #[.pointer (some ⟨w.heap.size, 0, none⟩)]] w1 fun e w' => ∃ v : Value, e = .returned v ∧ Kd.R (Kd.int .i64) 3 w' w.heap.size (fun _ => True) v (zi (Geo.compact (PT l) ys)) ∧ Below w.heap.size w w' := by
 have hyl : ∀ i, i < ys.length → ys.getD i 0 < l.length := fun i hi => by
  rw [List.getD_eq_getElem?_getD, List.getElem?_eq_getElem hi]; exact hy _ (List.getElem_mem hi)
 by_cases h2 : ys.length < 2
 ·have e : Geo.compact (PT l) ys = ys := by
   match ys, h2 with
   | [], _ => rfl
   | [_], _ => rfl
   | _ :: _ :: _, h2 => simp at h2; omega
  have d1 : decide ((ys.length : Int) < 2) = true := by simp; omega
  have d2 : decide (ys.length < 2) = true := by simp; omega
  rw [e]
  have hr := h.row
  have hb := h.bel
  clear h
  go_enter Tryz.func50, Tryz.ntmps50
  go_wp2
  go_ret
  exact ⟨_, rfl, hr, hb⟩
 ·have d1 : decide ((ys.length : Int) < 2) = false := by simp; omega
  have d2 : decide (ys.length < 2) = false := by simp; omega
  have H0 := Aside0.mk h
  have h0 : Geo.compact (PT l) ys = ys.take 1 ++ Geo.runs (PT l) (ys.getD (1 - 1) 0) (ys.drop 1) := by
   match ys, h2 with
   | [], h2 => simp at h2
   | a :: t, _ => simp [Geo.compact]
  clear h
  generalize hbv : Value.slice A l.length c = bv at H0
  go_enter Tryz.func50, Tryz.ntmps50
  go_wp2
  go_loopw [5] (fun s5 wr => ∃ (k : Nat), s5 = .int .i64 k ∧ 1 ≤ k ∧ k ≤ ys.length ∧ Aside0 (Cm w wr g cap bv ys) ∧ Aside0 (Geo.compact (PT l) ys = ys.take k ++ Geo.runs (PT l) (ys.getD (k - 1) 0) (ys.drop k))) (fun s5 _ => ys.length - (intOf s5).toNat)
  case atStart => exact ⟨1, rfl, Nat.le_refl _, by omega, H0, ⟨h0⟩⟩
  case round =>
   obtain ⟨k, rfl, hk1, hk, HC, HI⟩ := hrel
   clear H0 h0
   by_cases hlt : k < ys.length
   ·have e1 : decide ((k : Int) < (ys.length : Int)) = true := by simp; omega
    obtain ⟨c1, -⟩ := HC.out.cell hlt
    obtain ⟨k', hk'⟩ : ∃ k', k - 1 = k' := ⟨_, rfl⟩
    have hw : IntKind.i64.wrap ((k : Int) - 1) = (k' : Int) := wrap_pred' hk1 (by omega) hk'
    have l2 : k' < ys.length := by omega
    have e2 : decide (k' < ys.length) = true := by simp; omega
    have e3 : decide ((k' : Int) < (ys.length : Int)) = true := by simp; omega
    have e4 : decide (k < ys.length) = true := by simp; omega
    obtain ⟨c0, -⟩ := HC.out.cell (show k' < ys.length by omega)
    have hpc := pair_call (hbv ▸ HC.out) hl hf (hyl k hlt) (hyl k' (by omega))
    have HK' := Aside0.mk hk'
    clear hk'
    have hal : alikeAt l (ys.getD k 0) (ys.getD k' 0) = decide (PT l (ys.getD k 0) = PT l (ys.getD k' 0)) := rfl
    have HA := Aside0.mk hal
    clear hal
    generalize hx : ys.getD k 0 = x at c1 hpc
    generalize hy' : ys.getD k' 0 = y at c0 hpc
    have HX := Aside0.mk hx
    have HY := Aside0.mk hy'
    clear hx hy'
    generalize ht : alikeAt l x y = t at hpc
    have HT := Aside0.mk ht
    clear ht
    cases t
    ·go_wp2_with fail
     go_quiet (first | (go_at_call 51; exact hpc _))
     go_wp2
     go_roundw
     case measure => simp [intOf]; omega
     case rel =>
      have hA := HA.out
      rw [HX.out, HY.out, HT.out] at hA
      have hne := of_decide_eq_false hA.symm
      exact ⟨k + 1, by go_num, by omega, by omega, ⟨HC.out.drewN _⟩, ⟨compact_step HI.out hlt (by rw [HK'.out, HX.out, HY.out]; exact hne)⟩⟩
    ·have he : PT l (ys.getD k 0) = PT l (ys.getD (k - 1) 0) := by
      have hA := HA.out
      rw [HX.out, HY.out, HT.out] at hA
      rw [HK'.out, HX.out, HY.out]
      exact of_decide_eq_true hA.symm
     have HM := Aside0.mk (Mv.start HI.out hlt he)
     clear he
     go_wp2_with fail
     go_quiet (first | (go_at_call 51; exact hpc _))
     go_wp2
     clear c0 c1 hpc hw
     go_loopw [5, 7] (fun s5 s7 wq => ∃ (kk k2 : Nat) (zs : List Nat), s5 = .int .i64 kk ∧ s7 = .int .i64 k2 ∧ 1 ≤ k2 ∧ k + k2 ≤ ys.length ∧ Aside0 (Cm w wq g cap bv zs) ∧ Aside0 (Mv (PT l) ys zs kk (k + k2))) (fun _ s7 _ => ys.length - (intOf s7).toNat)
     case atStart => exact ⟨k, 1, ys, rfl, rfl, Nat.le_refl _, by omega, ⟨HC.out.drewN _⟩, HM⟩
     case round =>
      obtain ⟨kk, k2, zs, rfl, rfl, hk2, hle, HC, HM⟩ := hrel
      have hlz := HM.out.len
      have hkl := HM.out.lt
      by_cases hlt2 : k + k2 < ys.length
      ·have f1 : decide ((k2 : Int) < ((ys.length - k : Nat) : Int)) = true := by simp; omega
       obtain ⟨k2', hk2'⟩ : ∃ k2', k2 - 1 = k2' := ⟨_, rfl⟩
       have hw2 : IntKind.i64.wrap ((k2 : Int) - 1) = (k2' : Int) := wrap_pred' hk2 (by omega) hk2'
       have f2 : k2 < ys.length - k := by omega
       have f3 : k2' < ys.length - k := by omega
       have f4 : kk < ys.length := by omega
       obtain ⟨cm, -⟩ := HC.out.cell (show k + k2 < zs.length by omega)
       rw [HM.out.high _ (by omega)] at cm
       obtain ⟨cp, -⟩ := HC.out.cell (show k + k2' < zs.length by omega)
       rw [HM.out.high _ (by omega)] at cp
       obtain ⟨ck, fk⟩ := HC.out.cell (show kk < zs.length by omega)
       have hpc := pair_call (hbv ▸ HC.out) hl hf (hyl (k + k2) hlt2) (hyl (k + k2') (by omega))
       have hj : k + k2 - 1 = k + k2' := by omega
       have HJ := Aside0.mk hj
       clear hj hk2'
       have hal : alikeAt l (ys.getD (k + k2) 0) (ys.getD (k + k2') 0) = decide (PT l (ys.getD (k + k2) 0) = PT l (ys.getD (k + k2') 0)) := rfl
       have HA := Aside0.mk hal
       clear hal
       generalize hx : ys.getD (k + k2) 0 = x2 at cm hpc
       generalize hy' : ys.getD (k + k2') 0 = y2 at cp hpc
       have HX := Aside0.mk hx
       have HY := Aside0.mk hy'
       clear hx hy'
       generalize ht : alikeAt l x2 y2 = t2 at hpc
       have HT := Aside0.mk ht
       clear ht
       have HZ := Aside0.mk hlz
       clear hlz
       generalize zs.getD kk 0 = old at ck
       cases t2
       ·have hne : PT l (ys.getD (k + k2) 0) ≠ PT l (ys.getD (k + k2 - 1) 0) := by
         have hA := HA.out
         rw [HX.out, HY.out, HT.out] at hA
         rw [HJ.out, HX.out, HY.out]
         exact of_decide_eq_false hA.symm
        have HM2 := Aside0.mk (HM.out.keep hlt2 hne)
        have hst := fun n => (HC.out.drewN n).set kk (ys.getD (k + k2) 0)
        rw [HX.out] at hst
        have HS := Aside0.mk hst
        clear hst hne
        go_wp2_with fail
        go_quiet (first | (go_at_call 51; exact hpc _))
        go_wp2
        go_roundw
        case measure => simp [intOf]; omega
        case rel => exact ⟨kk + 1, k2 + 1, _, by go_num, by go_num, by omega, by omega, ⟨HS.out _⟩, by have := HM2; rw [HX.out] at this; exact this⟩
       ·have he : PT l (ys.getD (k + k2) 0) = PT l (ys.getD (k + k2 - 1) 0) := by
         have hA := HA.out
         rw [HX.out, HY.out, HT.out] at hA
         rw [HJ.out, HX.out, HY.out]
         exact of_decide_eq_true hA.symm
        have HM2 := Aside0.mk (HM.out.skip hlt2 he)
        clear he
        go_wp2_with fail
        go_quiet (first | (go_at_call 51; exact hpc _))
        go_wp2
        go_roundw
        case measure => simp [intOf]; omega
        case rel => exact ⟨kk, k2 + 1, zs, rfl, by go_num, by omega, by omega, ⟨HC.out.drewN _⟩, HM2⟩
      ·have f1 : decide ((k2 : Int) < ((ys.length - k : Nat) : Int)) = false := by simp; omega
       have hend : k + k2 = ys.length := by omega
       have f4 : kk < ys.length := by omega
       have f5 : kk ≤ ys.length := by omega
       have hcl : ∀ ty, (Builtin.clear_ #[26] ty #[.slice (some ⟨g, kk, none⟩) (ys.length - kk) (cap - kk)]).run Tryz.prog wr = .ok (.tuple #[]) (wr.setCells g kk (List.replicate (ys.length - kk) (.int .i64 0))) :=
        fun ty => run_clearI wr ty g kk _ _ (by omega) (fun j hj => by rw [(HC.out.cell (show kk + j < zs.length by omega)).1]; rfl) (fun j hj => (HC.out.cell (show kk + j < zs.length by omega)).2)
       have hcut := HC.out.cut (kk := kk) (n := ys.length - kk) (by omega)
       have hres : Geo.compact (PT l) ys = zs.take kk := by
        have := HM.out.res
        rw [List.drop_eq_nil_of_le (by omega)] at this
        rw [this]; simp [Geo.runs]
       have HR := Aside0.mk hres
       have HQ := Aside0.mk hcut
       clear hres hcut
       go_wp2
       go_ret
       rw [HR.out]
       exact ⟨_, rfl, HQ.out.1, HQ.out.2⟩
   ·have e1 : decide ((k : Int) < (ys.length : Int)) = false := by simp; omega
    go_wp2
    go_ret
    have e : Geo.compact (PT l) ys = ys := by
     have := HI.out
     rw [List.drop_eq_nil_of_le (by omega), List.take_of_length_le (by omega)] at this
     rw [this]; simp [Geo.runs]
    rw [e]
    exact ⟨_, rfl, HC.out.row, HC.out.bel⟩
end Go.Proofs.YtioahkblhekgpaaGreatDoor.Adm
namespace Go.Proofs.YtioahkblhekgpaaGreatDoor.Adm
open Go.RowKit Go.Proofs.YtioahkblhekgpaaGreatDoor.FltP Go.Proofs.YtioahkblhekgpaaGreatDoor.R Go.Proofs.YtioahkblhekgpaaGreatDoor.E Go.Proofs.YtioahkblhekgpaaGreatDoor.O Go.Proofs.YtioahkblhekgpaaGreatDoorW.PrintWords Go.Proofs.YtioahkblhekgpaaGreatDoorW.PrintLast Go.Proofs.YtioahkblhekgpaaGreatDoorW.PrintMore
theorem idxF_nn {α : Type} (p : α → Bool) : ∀ (l : List α) (n : Nat), (0 ≤ idxF p n l ↔ ∃ x ∈ l, p x = true)
 | [], n => by simp [idxF]
 | x :: l, n => by
  unfold idxF
  by_cases h : p x = true
  ·rw [if_pos h]; exact ⟨fun _ => ⟨x, by simp, h⟩, fun _ => by omega⟩
  ·rw [if_neg h, idxF_nn p l (n + 1)]
   constructor
   ·rintro ⟨y, hy, hp⟩; exact ⟨y, by simp [hy], hp⟩
   ·rintro ⟨y, hy, hp⟩
    rcases List.mem_cons.mp hy with rfl | hy
    ·exact absurd hp h
    ·exact ⟨y, hy, hp⟩
theorem allF_ok (l : List S) : (allF l).2 = 0 ↔ l.length ≤ 1048576 ∧ ∀ x ∈ l, gp x = true := by
 unfold allF
 by_cases h : l.length > 1048576
 ·rw [if_pos h]; constructor
  ·intro h0; exact absurd h0 (by decide)
  ·intro h0; omega
 ·rw [if_neg h]
  by_cases h2 : idxF (fun x => !gp x) 0 l ≥ 0
  ·rw [if_pos h2]
   obtain ⟨x, hx, hp⟩ := (idxF_nn _ _ _).mp h2
   constructor
   ·intro h0; exact absurd h0 (by show (10 : Int) ≠ 0; decide)
   ·intro h0; have := h0.2 x hx; rw [this] at hp; exact absurd hp (by decide)
  ·rw [if_neg h2]
   refine ⟨fun _ => ⟨by omega, fun x hx => ?_⟩, fun _ => rfl⟩
   cases hg : gp x
   ·exact absurd ((idxF_nn (fun x => !gp x) l 0).mpr ⟨x, hx, by simp [hg]⟩) h2
   ·rfl
theorem gp_good {x : S} (h : gp x = true) : GoodF x.f0 ∧ GoodF x.f1 := by
 unfold gp at h
 rw [Bool.and_eq_true] at h
 exact ⟨of_decide_eq_true h.1, of_decide_eq_true h.2⟩
theorem good_fin {l : List S} (h : ∀ x ∈ l, gp x = true) : Fin2 l := fun x hx => ⟨(gp_good (h x hx)).1.1, (gp_good (h x hx)).2.1⟩
set_option maxRecDepth 100000 in
theorem order_bad (A : Option Addr) (c : Nat) (l : List S) (w : World) (hl : Kd.C k32 w A l.length l) (hc : l.length ≤ c) (hw : Wd l) (hg : (allF l).2 ≠ 0) :
 Calls Tryz.prog 14 #[.slice A l.length c] w fun e w' => e = .returned (.slice none 0 0) ∧ Below w.heap.size w w' := by
 have hgood := good_calls A c l (w.alloc (.cells #[.slice A l.length c] 22)) (Kd.C_below hl ((Below.refl _ _).alloc (Nat.le_refl _) _)) hc hw
 rw [show ((allF l).2 == 0) = false from beq_eq_false_iff_ne.mpr hg] at hgood
 go_enter Tryz.func14, Tryz.ntmps14
 go_wp2_with (go_at_call 45; (with_reducible refine hgood.mono ?_); rintro u w1 ⟨rfl, hb1⟩)
 go_ret
 exact ⟨rfl, ((Below.refl w.heap.size w).alloc (Nat.le_refl _) _).trans (hb1.mono (by simp))⟩
set_option maxRecDepth 100000 in
set_option maxHeartbeats 1000000 in
theorem order_zero (A : Option Addr) (c : Nat) (w : World) (hl : Kd.C k32 w A 0 []) :
 Calls Tryz.prog 14 #[.slice A 0 c] w fun e w' => ∃ v : Value, e = .returned v ∧ Kd.R (Kd.int .i64) 3 w' w.heap.size (fun _ => True) v [] ∧ Below w.heap.size w w' := by
 have hmf : ∀ (fn : Fn) (first cap : Array Value) (w : World), (Instr.makeFunc fn first cap).run Tryz.prog w = .ok (.func fn first cap) w := fun _ _ _ _ => rfl
 have hgood : ∀ w, Kd.C k32 w A 0 [] → Calls Tryz.prog 45 #[.slice A 0 c] w fun e w' => e = .returned (.bool true) ∧ Below w.heap.size w w' := fun w h => good_calls A c [] w h (Nat.zero_le _) (fun x hx => by simp at hx)
 have hS := fun W p cap => AnyF.slices_SortFunc_none (P := Tryz.prog) (ρ := Srt.sortRen) { Srt.sortL with } p cap (.func (.func 47) #[] #[.pointer (some ⟨w.heap.size, 0, none⟩)]) W
 change ∀ W p cap, Calls Tryz.prog 46 _ _ _ at hS
 go_enter Tryz.func14, Tryz.ntmps14
 go_wp2_with (first | (go_at_call 45; (with_reducible refine (hgood _ (Kd.C_below hl ((Below.refl _ _).alloc (Nat.le_refl _) _))).mono ?_); rintro u w1 ⟨rfl, hb1⟩; have hbx1 := (blk_cell (box_after hb1) 0).trans (show _ = some (Value.slice A 0 c) from rfl)) | ((with_reducible refine gate_dst (N := 10) rfl ?_); refine Kd.R_make (Kd.int .i64) _ 3 rfl (N := 10) rfl 26 _ _ rfl (0 : Int) rfl rfl Tryz.underlying26 (.int .i64 0) 8 infoI rfl (by decide) (by omega) (0 : Int) (ok := fun _ => True) (okp := fun _ => True) rfl (fun _ hk => hk) trivial (by omega) (by decide) (Below.refl _ _) (Nat.le_refl _) ?_; intro v1 w2 ho1 hb2 hg1 hnew1; clear hg1 hnew1; obtain ⟨A2, c2, rfl⟩ := Kd.R_slice ho1; have HO := Lib.hid ho1; have HB := Lib.hid hb2; clear ho1 hb2))
 refine wp_loop_rounds 1 ?_
 rw [rounds_succ]
 go_wp2_with (go_at_call 46; (with_reducible refine (hS _ _ _).mono ?_); rintro u w3 ⟨rfl, rfl⟩)
 go_ret
 have h1 : w.heap.size + 1 ≤ w1.heap.size := by simpa using hb1.size
 exact ⟨_, rfl, Kd.R_lower HO.out (by omega), (((Below.refl w.heap.size w).alloc (Nat.le_refl _) _).trans (hb1.mono (by simp))).trans (HB.out.mono (by omega))⟩
def ordAll (l : List S) : List Nat := if (allF l).2 = 0 then orderN l else []
theorem order_calls (A : Option Addr) (c : Nat) (l : List S) (w : World) (hl : Kd.C k32 w A l.length l) (hc : l.length ≤ c) (hw : Wd l) :
 Calls Tryz.prog 14 #[.slice A l.length c] w fun e w' => ∃ v : Value, e = .returned v ∧ Kd.R (Kd.int .i64) 3 w' w.heap.size (fun _ => True) v (zi (ordAll l)) ∧ Below w.heap.size w w' := by
 unfold ordAll
 by_cases hg : (allF l).2 = 0
 ·rw [if_pos hg]
  obtain ⟨h1, h2⟩ := (allF_ok l).mp hg
  by_cases h0 : l.length = 0
  ·obtain rfl : l = [] := List.length_eq_zero_iff.mp h0
   rw [show orderN ([] : List S) = [] from List.length_eq_zero_iff.mp (orderN_sorted []).length]
   exact order_zero A c w hl
  ·have := order_any A c l w hl hc hw (good_fin h2) hg (by omega) h1
   rw [orderL_N] at this
   exact this
 ·rw [if_neg hg]
  exact (order_bad A c l w hl hc hw hg).mono fun e w' ⟨he, hb⟩ => ⟨_, he, Kd.R_nil _ _ _ _ _, hb⟩
def unlAll (l : List S) : List Nat := Geo.compact (PT l) (ordAll l)
set_option maxRecDepth 100000 in
set_option maxHeartbeats 1000000 in
theorem compact_none (A : Option Addr) (c : Nat) (fv : Value) (w : World) : Calls Tryz.prog 50 #[.slice A 0 c, fv] w fun e w' => e = .returned (.slice A 0 c) ∧ w' = w := by
 go_enter Tryz.func50, Tryz.ntmps50
 go_wp2
 go_ret
 exact ⟨rfl, rfl⟩
theorem ordAll_lt (l : List S) : ∀ y ∈ ordAll l, y < l.length := fun y hy => by
 unfold ordAll at hy
 split at hy
 ·exact ((orderN_sorted l).2 y).mp hy
 ·simp at hy
theorem ordAll_len (l : List S) : (ordAll l).length = l.length ∧ l.length ≤ 1048576 ∧ (∀ x ∈ l, gp x = true) ∨ ordAll l = [] := by
 unfold ordAll
 by_cases hg : (allF l).2 = 0
 ·rw [if_pos hg]; obtain ⟨h1, h2⟩ := (allF_ok l).mp hg; exact .inl ⟨(orderN_sorted l).length, h1, h2⟩
 ·rw [if_neg hg]; exact .inr rfl
set_option maxRecDepth 100000 in
set_option maxHeartbeats 1000000 in
theorem unlike_calls (A : Option Addr) (c : Nat) (l : List S) (w : World) (hl : Kd.C k32 w A l.length l) (hc : l.length ≤ c) (hw : Wd l) :
 Calls Tryz.prog 16 #[.slice A l.length c] w fun e w' => ∃ v : Value, e = .returned v ∧ Kd.R (Kd.int .i64) 3 w' w.heap.size (fun _ => True) v (zi (unlAll l)) ∧ Below w.heap.size w w' := by
 have hmf : ∀ (fn : Fn) (first cap : Array Value) (w : World), (Instr.makeFunc fn first cap).run Tryz.prog w = .ok (.func fn first cap) w := fun _ _ _ _ => rfl
 have hor := order_calls A c l (w.alloc (.cells #[.slice A l.length c] 22)) (Kd.C_below hl ((Below.refl _ _).alloc (Nat.le_refl _) _)) hc hw
 have key : ∀ (v : Value) (w1 : World), Kd.R (Kd.int .i64) 3 w1 (w.alloc (.cells #[.slice A l.length c] 22)).heap.size (fun _ => True) v (zi (ordAll l)) → Below (w.alloc (.cells #[.slice A l.length c] 22)).heap.size (w.alloc (.cells #[.slice A l.length c] 22)) w1 →
  Calls Tryz.prog 50 #[v, .func (.func 51) #[] #[.pointer (some ⟨w.heap.size, 0, none⟩)]] w1 fun e w' => ∃ v : Value, e = .returned v ∧ Kd.R (Kd.int .i64) 3 w' w.heap.size (fun _ => True) v (zi (unlAll l)) ∧ Below w.heap.size w w' := by
  intro v w1 hR hB
  have hbel : Below w.heap.size w w1 := ((Below.refl w.heap.size w).alloc (Nat.le_refl _) _).trans (hB.mono (by simp))
  by_cases h0 : ordAll l = []
  ·obtain ⟨A1, c1, rfl, h1, h2⟩ := Kd.R_reads hR
   unfold unlAll
   rw [h0] at hR ⊢
   exact (compact_none A1 c1 _ w1).mono fun e w' ⟨he, hw⟩ => ⟨_, he, by rw [hw]; exact Kd.R_lower hR (by simp), by rw [hw]; exact hbel⟩
  ·rcases ordAll_len l with ⟨h1, h2, h3⟩ | h1
   ·have hn : 0 < (zi (ordAll l)).length := by rw [List.length_map]; exact List.length_pos_iff.mpr h0
    obtain ⟨g, cap, rfl, g1, g2, g3⟩ := Kd.R_form hR (by omega)
    rw [show (zi (ordAll l)).length = (ordAll l).length from List.length_map ..] at hR ⊢
    have hcap := (Kd.R_reads' hR).2.1
    refine compact_calls (w := w) ⟨Kd.R_lower hR (by simp), hbel, by simpa using g1, box_after hB⟩ hl (good_fin h3) (ordAll_lt l) (by omega) (by simpa using hcap)
   ·exact absurd h1 h0
 go_enter Tryz.func16, Tryz.ntmps16
 go_wp2_with (first | (go_at_call 14; (with_reducible refine hor.mono ?_); rintro u w1 ⟨v1, rfl, hR1, hB1⟩) | (go_at_call 50; (with_reducible refine (key _ _ hR1 hB1).mono ?_); rintro u w2 ⟨v2, rfl, hR2, hB2⟩))
 go_ret
 exact ⟨_, rfl, hR2, hB2⟩
end Go.Proofs.YtioahkblhekgpaaGreatDoor.Adm
