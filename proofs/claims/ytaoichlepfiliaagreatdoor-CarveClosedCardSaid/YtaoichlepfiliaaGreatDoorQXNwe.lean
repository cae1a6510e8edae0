/- Lemmas of Nwe. Conditions stand in each. -/
import Derived.Test.YtaoichlepfiliaaGreatDoorQXNwd
import Derived.Test.YtaoichlepfiliaaGreatDoorQXLdx
set_option linter.unusedSimpArgs false
set_option linter.unusedVariables false
section
namespace Go.Proofs.YtaoichlepfiliaaGreatDoor.Nw
open Go.RowKit Go.Proofs.YtaoichlepfiliaaGreatDoor.FltP Go.Proofs.YtaoichlepfiliaaGreatDoor.R Go.Proofs.YtaoichlepfiliaaGreatDoor.E Go.Proofs.YtaoichlepfiliaaGreatDoor.O Go.Proofs.YtaoichlepfiliaaGreatDoorW.PrintWords Go.Proofs.YtaoichlepfiliaaGreatDoorW.PrintLast
open Go.Proofs.YtaoichlepfiliaaGreatDoor.NumP Go.Proofs.YtaoichlepfiliaaGreatDoor.Adm
set_option maxRecDepth 100000 in
set_option maxHeartbeats 4000000 in
theorem mul_call {v1 v2 : Value} {B C n m : Nat} {x y : Int} {w : World} (h1 : NumAt w v1 B n x) (h2 : NumAt w v2 C m y) (hn : n + m ≤ 399999) :
 Calls Tryz.prog 121 #[v1, v2] w fun e w' => ∃ v, e = .returned v ∧ NumAt w' v (B + C) (n + m) (x * y) ∧ Below w.heap.size w w' := by
 have hu := Tryz.underlying131
 obtain ⟨S1, D1, E1, A1, c1, rfl, hC1, hc1, hw1⟩ := h1
 obtain ⟨S2, D2, E2, A2, c2, rfl, hC2, hc2, hw2⟩ := h2
 have hB := below_alloc (below_alloc (below_alloc (Below.refl w.heap.size w) (.cells #[.int .i64 S1, .slice A1 D1.length c1, .int .i64 E1] 131)) (.cells #[.int .i64 S2, .slice A2 D2.length c2, .int .i64 E2] 131)) (.cells #[.int .i64 0, .slice none 0 0, .int .i64 0] 131)
 have hX := (three_new w (.cells #[.int .i64 S1, .slice A1 D1.length c1, .int .i64 E1] 131) (.cells #[.int .i64 S2, .slice A2 D2.length c2, .int .i64 E2] 131) (.cells #[.int .i64 0, .slice none 0 0, .int .i64 0] 131)).2.2
 by_cases z1 : S1 = 0
 ·have HR := Aside0.mk (show x * y = 0 by rw [worth_zero hw1 z1, Int.zero_mul])
  subst z1
  have HB := Aside0.mk (And.intro hB hX)
  clear hw1 hw2 hB hX hC1 hC2 hc1 hc2
  go_enter Tryz.func121, Tryz.ntmps121
  go_wp2
  refine bodyPost_ret (results_cell_row rfl _ _ (w.heap.size + 2) 131 #[.int .i64 0, .slice none 0 0, .int .i64 0] (0, 0) _ rfl HB.out.2 Tryz.underlying131 rfl (by kernel_rfl)) rfl ⟨_, rfl, ?_, HB.out.1⟩
  rw [HR.out]
  exact NumAt.zero _ _ _
 ·by_cases z2 : S2 = 0
  ·have HR := Aside0.mk (show x * y = 0 by rw [worth_zero hw2 z2, Int.mul_zero])
   have e1 : (S1 == 0) = false := beq_eq_false_iff_ne.mpr z1
   subst z2
   have HB := Aside0.mk (And.intro hB hX)
   clear hw1 hw2 hB hX hC1 hC2 hc1 hc2 z1
   go_enter Tryz.func121, Tryz.ntmps121
   go_wp2
   refine bodyPost_ret (results_cell_row rfl _ _ (w.heap.size + 2) 131 #[.int .i64 0, .slice none 0 0, .int .i64 0] (0, 0) _ rfl HB.out.2 Tryz.underlying131 rfl (by kernel_rfl)) rfl ⟨_, rfl, ?_, HB.out.1⟩
   rw [HR.out]
   exact NumAt.zero _ _ _
  ·exact mul_main S1 E1 D1 A1 c1 S2 E2 D2 A2 c2 w hC1.1 hC2.1 hw1 hw2 hn z1 z2
structure PowSt (w wr : World) (o : Nat) (vO : Value) (O : List Int) (e : Int) : Prop where
 row : wr.heap[o]? = some (.cells #[.int .i64 1, vO, .int .i64 e] 131 (0, 0))
 own : Kd.R (Kd.int .i64) 2 wr w.heap.size (fun _ => True) vO O
 out : wr.heap[w.heap.size]? = some (.cells #[.int .i64 0, .slice none 0 0, .int .i64 0] 131 (0, 0))
 bel : Below w.heap.size w wr
theorem PowSt.below {w wr w' : World} {o : Nat} {vO : Value} {O : List Int} {e : Int} (h : PowSt w wr o vO O e) (hb : Below wr.heap.size wr w') : PowSt w w' o vO O e :=
 ⟨blk_below h.row hb, Kd.R_below h.own hb, blk_below h.out hb, h.bel.trans (hb.mono h.bel.size)⟩
theorem pow_push {w wr w9 : World} {o : Nat} {vO : Value} {O : List Int} {e v : Int} (T : PowSt w wr o vO O e) {A9 : Option Addr} {c9 : Nat} (hR9 : Kd.R (Kd.int .i64) 2 w9 w.heap.size (fun _ => True) (.slice A9 (O.length + 1) c9) (O ++ [v])) (hB9 : Below w.heap.size w w9) (hrow : w9.heap[o]? = some (.cells #[.int .i64 1, vO, .int .i64 e] 131 (0, 0))) (hout : w9.heap[w.heap.size]? = some (.cells #[.int .i64 0, .slice none 0 0, .int .i64 0] 131 (0, 0))) (ho : w.heap.size < o) : PowSt w (w9.setCell ⟨o, 1, none⟩ (.slice A9 (O.length + 1) c9)) o (.slice A9 (O.length + 1) c9) (O ++ [v]) e :=
 ⟨blk_put hrow 1 _ rfl, Kd.R_set hR9 hrow (by decide) 1 _, blk_far hout (by show w.heap.size ≠ o; omega) _, hB9.setCell (by show w.heap.size ≤ o; omega) _⟩
theorem pow_row {w wr : World} {o : Nat} {vO : Value} {xs : List Int} {e : Int} (T : PowSt w wr o vO xs e) {k : Nat} (hk : k < xs.length) : ∃ b cap, vO = .slice (some ⟨b, 0, none⟩) xs.length cap ∧ w.heap.size ≤ b ∧ b < wr.heap.size ∧ (∀ v, PowSt w (wr.setCell ⟨b, k, none⟩ (.int .i64 v)) o (.slice (some ⟨b, 0, none⟩) xs.length cap) (xs.set k v) e) ∧ wr.cell? ⟨b, k, none⟩ = some (.int .i64 (rd xs (k : Int))) ∧ wr.frozen? ⟨b, k, none⟩ = false ∧ b ≠ o := by
 obtain ⟨g, cap, rfl, hb, hl, cells, hh⟩ := Kd.R_form T.own (by omega)
 have ne : ∀ (q : Nat) (cs : Array Value), wr.heap[q]? = some (.cells cs 131 (0, 0)) → q ≠ g := fun q cs hq h => by
  rw [h, hh] at hq
  injection hq with hq
  injection hq with _ hq _
  exact absurd hq (by decide)
 refine ⟨g, cap, rfl, hb, hl, fun v => ⟨blk_far T.row (ne o _ T.row) _, ?_, blk_far T.out (ne _ _ T.out) _, T.bel.setCell (by show w.heap.size ≤ g; exact hb) _⟩, ?_, ?_, fun h => ne o _ T.row h.symm⟩
 ·have := Kd.R_putn T.own (k : Int) v
  rwa [Int.toNat_natCast] at this
 ·have := (Kd.R_celln (0 : Int) T.own (k : Int) (by omega) (by omega)).1
  simpa [rdOf, rd, List.getD_eq_getElem?_getD] using this
 ·have := (Kd.R_celln (0 : Int) T.own (k : Int) (by omega) (by omega)).2
  rwa [Int.toNat_natCast] at this
theorem u64I (n : Int) (h0 : 0 ≤ n) (h1 : n < 18446744073709551616) : IntKind.u64.wrap n = n := by simp only [IntKind.wrap]; simp [IntKind.signed, IntKind.bits]; omega
theorem pow2_le {a b : Nat} (h : a ≤ b) : (2 : Int) ^ a ≤ 2 ^ b := by
 have h1 := Nat.pow_le_pow_right (n := 2) (by omega) h
 have e1 : ((2 ^ a : Nat) : Int) = 2 ^ a := by simp
 have e2 : ((2 ^ b : Nat) : Int) = 2 ^ b := by simp
 omega
set_option maxRecDepth 100000 in
set_option maxHeartbeats 8000000 in
theorem power_call (n k0 : Int) (w : World) (hn : 0 ≤ n) (hn2 : n < 18446744073709551616) (hk : -24000 ≤ k0) (hk2 : k0 ≤ 24000) (B : Nat) (hB : 0 ≤ 24 * (B : Int) + k0) :
 Calls Tryz.prog 106 #[.int .u64 n, .int .i64 k0] w fun e w' => ∃ v, e = .returned v ∧ NumAt w' v B 1010 (n * 2 ^ (24 * (B : Int) + k0).toNat) ∧ Below w.heap.size w w' := by
 have hu := Tryz.underlying131
 go_enter Tryz.func106, Tryz.ntmps106
 go_wp2
 have hout := blk_new w (.cells #[.int .i64 0, .slice none 0 0, .int .i64 0] 131)
 have hB0 := below_alloc (Below.refl w.heap.size w) (.cells #[.int .i64 0, .slice none 0 0, .int .i64 0] 131)
 have hsz : w.heap.size < (w.alloc (.cells #[.int .i64 0, .slice none 0 0, .int .i64 0] 131)).heap.size := by simp
 generalize w.alloc (.cells #[.int .i64 0, .slice none 0 0, .int .i64 0] 131) = w0 at *
 go_loopw [1, 5] (fun v1 v5 wr => ∃ k e : Int, v1 = .int .i64 k ∧ v5 = .int .i64 e ∧ Aside0 (k0 = 24 * e + k) ∧ k ≤ 24000 ∧ -24000 ≤ k ∧ -1001 ≤ e ∧ e ≤ 0 ∧ wr = w0) (fun v1 _ _ => (-intOf v1).toNat)
 case atStart => exact ⟨k0, 0, rfl, rfl, ⟨by omega⟩, hk2, hk, by omega, by omega, rfl⟩
 case round =>
  obtain ⟨k, e, rfl, rfl, HK, hk3, hk4, he1, he2, rfl⟩ := hrel
  by_cases hk0 : k < 0
  ·have d1 : decide (k < 0) = true := decide_eq_true hk0
   have i1 : IntKind.i64.wrap (k + 24) = k + 24 := wrapI _ (by omega) (by omega)
   have i2 : IntKind.i64.wrap (e - 1) = e - 1 := wrapI _ (by omega) (by omega)
   have he3 : -1001 ≤ e - 1 := by have := HK.out; omega
   go_wp2
   exact ⟨⟨k + 24, e - 1, rfl, rfl, ⟨by have := HK.out; omega⟩, by omega, by omega, he3, by omega, by first | trivial | rfl⟩, by simp [intOf]; omega⟩
  ·have d1 : decide (k < 0) = false := decide_eq_false hk0
   go_wp2
   go_loopw [1, 5] (fun v1 v5 wq => ∃ k e : Int, v1 = .int .i64 k ∧ v5 = .int .i64 e ∧ Aside0 (k0 = 24 * e + k) ∧ k ≤ 24000 ∧ 0 ≤ k ∧ -1001 ≤ e ∧ e ≤ 1001 ∧ wq = wr) (fun v1 _ _ => (intOf v1).toNat)
   case atStart => exact ⟨k, e, rfl, rfl, HK, hk3, by omega, by omega, by omega, rfl⟩
   case round =>
    clear HK hk3 hk4 he1 he2 hk0 d1
    obtain ⟨k, e, rfl, rfl, HK, hk3, hk4, he1, he2, rfl⟩ := hrel
    by_cases hk5 : 24 ≤ k
    ·have d1 : decide ((24 : Int) ≤ k) = true := decide_eq_true hk5
     have i1 : IntKind.i64.wrap (k - 24) = k - 24 := wrapI _ (by omega) (by omega)
     have i2 : IntKind.i64.wrap (e + 1) = e + 1 := wrapI _ (by omega) (by omega)
     have he3 : e + 1 ≤ 1001 := by have := HK.out; omega
     go_wp2
     exact ⟨⟨k - 24, e + 1, rfl, rfl, ⟨by have := HK.out; omega⟩, by omega, by omega, by omega, he3, by first | trivial | rfl⟩, by simp [intOf]; omega⟩
    ·have d1 : decide ((24 : Int) ≤ k) = false := decide_eq_false hk5
     obtain ⟨m, rfl⟩ := Int.eq_ofNat_of_zero_le hk4
     have T0 : PowSt w (wr.alloc (.cells #[.int .i64 1, .slice none 0 0, .int .i64 e] 131)) wr.heap.size (.slice none 0 0) [] e := ⟨blk_new _ _, Kd.R_nil .., blk_alloc hout _, below_alloc hB0 _⟩
     obtain ⟨o, ho⟩ : ∃ o, o = wr.heap.size := ⟨_, rfl⟩
     have hoo : w.heap.size < o := by omega
     rw [← ho] at T0
     have HO := Aside0.mk ho
     go_wp2
     rw [← ho]
     clear ho hout hB0 hsz hk hk2
     have hml : m < 24 := by omega
     go_loopw [0] (fun v0 wq => ∃ (z : Int) (O : List Int) (vO : Value), v0 = .int .u64 z ∧ 0 ≤ z ∧ z < W (3 - O.length) ∧ O.length ≤ 3 ∧ z < 18446744073709551616 ∧ Dig O ∧ Aside0 (dval O + W O.length * z = n) ∧ PowSt w wq o vO O e) (fun v0 _ => (intOf v0).toNat)
     case atStart => exact ⟨n, [], .slice none 0 0, rfl, hn, by rw [show W (3 - ([] : List Int).length) = 4722366482869645213696 from rfl]; omega, by simp, hn2, by simp [Dig], ⟨by simp [dval, W_zero]⟩, T0⟩
     case round =>
      clear T0
      obtain ⟨z, O, vO, rfl, hz0, hz1, hOl, hz2, hOd, HV, T⟩ := hrel
      by_cases hz : 0 < z
      ·have d2 : decide (0 < z) = true := decide_eq_true hz
       obtain ⟨q, hq⟩ : ∃ q, q = z / 16777216 := ⟨_, rfl⟩
       obtain ⟨m_, hm_⟩ : ∃ m, m = z % 16777216 := ⟨_, rfl⟩
       have e6 : Int.tdiv z 16777216 = q := by rw [hq]; exact Int.tdiv_eq_ediv_of_nonneg hz0
       have e7 : Int.tmod z 16777216 = m_ := by rw [hm_]; exact Int.tmod_eq_emod_of_nonneg hz0
       have hqm : z = 16777216 * q + m_ ∧ 0 ≤ m_ ∧ m_ < 16777216 ∧ 0 ≤ q ∧ q < z := by omega
       have i8 : IntKind.u64.wrap q = q := u64I _ (by omega) (by omega)
       have i9 : IntKind.u64.wrap m_ = m_ := u64I _ (by omega) (by omega)
       have i10 : IntKind.i64.wrap m_ = m_ := wrapI _ (by omega) (by omega)
       have hlen : O.length < 3 := by
        rcases Nat.lt_or_ge O.length 3 with h | h
        ·exact h
        ·rw [show 3 - O.length = 0 by omega, W_zero] at hz1; omega
       have hqW : q < W (3 - (O.length + 1)) := by
        rw [show 3 - O.length = (3 - (O.length + 1)) + 1 by omega, W_succ] at hz1; omega
       have hnx : dval (O ++ [m_]) + W (O.length + 1) * q = n := by
        rw [dval_snoc, W_succ, ← HV.out, hqm.1]; grind
       have HQ := Aside0.mk (And.intro hqm (And.intro hqW hnx))
       have hdj : Dig (O ++ [m_]) := hOd.join (fun x hx => by rw [List.mem_singleton.mp hx]; omega)
       have HLEN := Aside0.mk hlen
       obtain ⟨r0, r1, r2, r3, r4, r5⟩ := num_cells T.row
       clear hq hm_ hqm hqW hnx hz1
       go_wp2_with (first
        | (refine Kd.R_append_rows (Kd.int .i64) (w0 := w) w.heap.size (by rfl) (.tmp 29) (.tmp 33) 129 2 (.int .i64 0) 8 rfl Tryz.underlying129 infoD rfl (by decide) (by omega) vO O [m_] _ _ _ (fun _ => True) (fun _ => False) rfl rfl ?aO ?aR (fun _ _ h => h) (fun _ h => h.elim) (fun _ _ => trivial) ?aB ?aS ?aL ?_
           (case aO => exact Kd.R_alloc T.own _)
           (case aR => exact ilit_C [m_] rfl (heap_alloc_new _ _) rfl (by decide))
           (case aB => exact below_alloc T.bel _)
           (case aS => exact (below_alloc T.bel _).size)
           (case aL => omega)
           intro v9 w9 hR9 hB9 hg9 hat9; clear hat9; obtain ⟨A9, c9, rfl⟩ := Kd.R_slice hR9; have hrow := blk_grown (blk_alloc T.row _) hg9 (Kd.R_ne T.own T.row (by decide)); have hout := blk_grown (blk_alloc T.out _) hg9 (Kd.R_ne T.own T.out (by decide)); obtain ⟨r0, r1, r2, r3, r4, r5⟩ := num_cells hrow; clear hg9))
       have e9 : (O ++ [m_]).length = O.length + 1 := by simp
       rw [e9] at hR9
       have hqm := HQ.out.1
       exact ⟨⟨q, O ++ [m_], _, rfl, hqm.2.2.2.1, by rw [e9]; exact HQ.out.2.1, by rw [e9]; have := HLEN.out; omega, by omega, hdj, ⟨by rw [e9]; exact HQ.out.2.2⟩, pow_push T hR9 hB9 hrow hout hoo⟩, by simp [intOf]; omega⟩
      ·obtain rfl : z = 0 := by omega
       have d2 : decide ((0 : Int) < 0) = false := by decide
       have hOn : dval O = n := by have := HV.out; rw [Int.mul_zero, Int.add_zero] at this; exact this
       have HON := Aside0.mk hOn
       clear hOn hz1 hz2 hz0 hz HV
       go_wp2
       go_loopw [7, 8] (fun v7 v8 wq => ∃ i : Nat, i ≤ m ∧ v8 = .int .i64 i ∧ v7 = .int .i64 (2 ^ i) ∧ PowSt w wq o vO O e) (fun _ v8 _ => m - (intOf v8).toNat)
       case atStart => exact ⟨0, Nat.zero_le _, rfl, rfl, T⟩
       case round =>
        clear T
        obtain ⟨i, him, rfl, rfl, T⟩ := hrel
        by_cases hlt : i < m
        ·have d3 : decide ((i : Int) < (m : Int)) = true := by simp; omega
         have d4 : decide (i < m) = true := by simp; omega
         have hp2 : (2 : Int) ^ i * 2 = 2 ^ (i + 1) := (Int.pow_succ _ _).symm
         have hb2 : (2 : Int) ^ (i + 1) ≤ 2 ^ 24 := pow2_le (by omega)
         have hb3 : (0 : Int) < 2 ^ (i + 1) := Int.pow_pos (by omega)
         have i8 : IntKind.i64.wrap ((2 : Int) ^ i * 2) = 2 ^ (i + 1) := by rw [hp2]; exact wrapI _ (by omega) (by omega)
         have i9 : IntKind.i64.wrap ((i : Int) + 1) = (i : Int) + 1 := wrapI _ (by omega) (by omega)
         clear hp2 hb2 hb3
         go_wp2
         exact ⟨⟨i + 1, by omega, by go_num, rfl, T⟩, by simp [intOf]; omega⟩
        ·obtain rfl : i = m := by omega
         have d3 : decide ((i : Int) < (i : Int)) = false := by simp
         have d4 : decide (i < i) = false := by simp
         have hb2 : (2 : Int) ^ i ≤ 2 ^ 23 := pow2_le (by omega)
         have hb3 : (0 : Int) < 2 ^ i := Int.pow_pos (by omega)
         have hOl4 : O.length ≤ 3 := hOl
         go_wp2
         obtain ⟨tw, htw⟩ : ∃ tw : Int, tw = 2 ^ i := ⟨_, rfl⟩
         rw [← htw] at hb2 hb3 ⊢
         have HTW := Aside0.mk htw
         clear htw
         go_loopw [9, 10] (fun v9 v10 wq => ∃ (j : Nat) (c : Int) (xs : List Int), j ≤ O.length ∧ v10 = .int .i64 j ∧ v9 = .int .i64 c ∧ 0 ≤ c ∧ c < 16777216 ∧ Dig xs ∧ Aside0 (xs.length = O.length) ∧ Aside0 (∀ k : Nat, j ≤ k → rd xs (k : Int) = rd O (k : Int)) ∧ Aside0 (dval (xs.take j) + W j * c = tw * dval (O.take j)) ∧ PowSt w wq o vO xs e) (fun _ v10 _ => O.length - (intOf v10).toNat)
         case atStart => exact ⟨0, 0, O, Nat.zero_le _, rfl, rfl, by omega, by omega, hOd, ⟨rfl⟩, ⟨fun _ _ => rfl⟩, ⟨by simp [dval]⟩, T⟩
         case round =>
          clear T
          obtain ⟨j, c, xs, hj, rfl, rfl, hc0, hc1, hxd, HXL, HXS, HV, T⟩ := hrel
          by_cases hjl : j < O.length
          ·obtain ⟨b, cap, rfl, hbase, hlt, hput, hcell, hfz, hbo⟩ := pow_row T (k := j) (by rw [HXL.out]; exact hjl)
           rw [HXL.out]
           have hxj := HXS.out j (Nat.le_refl _)
           have hdo := rd_dig hOd (j : Int)
           have htk := take_snoc hjl
           rw [hxj] at hcell
           generalize hdg : rd O (j : Int) = d at *
           have hm0 : 0 ≤ d * tw := Int.mul_nonneg hdo.1 (by omega)
           have hm1 : d * tw ≤ 16777215 * 16777215 := Int.mul_le_mul (by omega) (by omega) (by omega) (by omega)
           have i5 : IntKind.i64.wrap (d * tw) = d * tw := wrapI _ (by omega) (by omega)
           obtain ⟨v, hv⟩ : ∃ v, d * tw + c = v := ⟨_, rfl⟩
           have i7 : IntKind.i64.wrap (d * tw + c) = v := by rw [wrapI _ (by omega) (by omega)]; exact hv
           have hv0 : 0 ≤ v := by omega
           obtain ⟨q, hq⟩ : ∃ q, q = v / 16777216 := ⟨_, rfl⟩
           obtain ⟨m_, hm_⟩ : ∃ m, m = v % 16777216 := ⟨_, rfl⟩
           have e6 : Int.tdiv v 16777216 = q := by rw [hq]; exact Int.tdiv_eq_ediv_of_nonneg hv0
           have e7 : Int.tmod v 16777216 = m_ := by rw [hm_]; exact Int.tmod_eq_emod_of_nonneg hv0
           have hqm : v = 16777216 * q + m_ ∧ 0 ≤ m_ ∧ m_ < 16777216 ∧ 0 ≤ q ∧ q < 16777216 := by omega
           have i8 : IntKind.i64.wrap q = q := wrapI _ (by omega) (by omega)
           have i9 : IntKind.i64.wrap m_ = m_ := wrapI _ (by omega) (by omega)
           have i10 : IntKind.i64.wrap ((j : Int) + 1) = (j : Int) + 1 := wrapI _ (by omega) (by omega)
           have d5 : decide ((j : Int) < (O.length : Int)) = true := by simp; omega
           have d6 : decide (j < O.length) = true := by simp; omega
           have hnx : dval ((xs.set j m_).take (j + 1)) + W (j + 1) * q = tw * dval (O.take (j + 1)) := by
            have h1 : j < (xs.set j m_).length := by rw [List.length_set, HXL.out]; exact hjl
            rw [take_snoc h1, rd_set (by rw [HXL.out]; exact hjl), if_pos rfl, List.take_set_of_le (Nat.le_refl _), htk, W_succ]
            have := HV.out
            rw [Int.mul_add, ← this, show m_ = d * tw + c - 16777216 * q from by omega]
            grind
           have HNX := Aside0.mk (And.intro hnx hqm)
           have HPUT := Aside0.mk (hput m_)
           have HFF := Aside0.mk (And.intro hdg hv)
           obtain ⟨r0, r1, r2, r3, r4, r5⟩ := num_cells T.row
           rw [HXL.out] at r1
           clear hnx hqm hput hdg hv hq hm_ hxj htk hm0 hm1 hdo T
           go_wp2
           have hqm := HNX.out.2
           exact ⟨⟨j + 1, q, xs.set j m_, by omega, by go_num, rfl, hqm.2.2.2.1, hqm.2.2.2.2, dig_set hxd hqm.2.1 hqm.2.2.1, ⟨by rw [List.length_set]; exact HXL.out⟩, ⟨fun k hk => by rw [rd_set (by rw [HXL.out]; exact hjl), if_neg (by omega)]; exact HXS.out k (by omega)⟩, ⟨HNX.out.1⟩, by have := HPUT.out; rw [HXL.out] at this; exact this⟩, by simp [intOf]; omega⟩
          ·obtain rfl : j = O.length := by omega
           have d5 : decide ((O.length : Int) < (O.length : Int)) = false := by simp
           have d6 : decide (O.length < O.length) = false := by simp
           have hfin := HV.out
           rw [List.take_of_length_le (by rw [HXL.out]; exact Nat.le_refl _), List.take_of_length_le (Nat.le_refl _), HON.out] at hfin
           have hval : dval (xs ++ [c]) = tw * n := by rw [dval_snoc, HXL.out]; exact hfin
           have hDg : Dig (xs ++ [c]) := hxd.join (fun x hx => by rw [List.mem_singleton.mp hx]; omega)
           have hlx := HXL.out
           have hl5 : (xs ++ [c]).length = O.length + 1 := by rw [List.length_append, hlx]; rfl
           have HLX := Aside0.mk hlx
           obtain ⟨Av, cv, rfl⟩ := Kd.R_slice T.own
           rw [hlx] at T
           obtain ⟨r0, r1, r2, r3, r4, r5⟩ := num_cells T.row
           have HL5 := Aside0.mk hl5
           have HVAL := Aside0.mk hval
           clear hfin hval hlx hl5
           have hxl4 : xs.length ≤ 4000000 := by rw [HLX.out]; omega
           go_wp2_with (first
            | (refine Kd.R_append_rows (Kd.int .i64) (w0 := w) w.heap.size (by rfl) (.tmp 70) (.tmp 72) 129 2 (.int .i64 0) 8 rfl Tryz.underlying129 infoD rfl (by decide) (by omega) _ xs [c] _ _ _ (fun _ => True) (fun _ => False) rfl rfl ?aO ?aR (fun _ _ h => h) (fun _ h => h.elim) (fun _ _ => trivial) ?aB ?aS ?aL ?_
               (case aO => exact Kd.R_alloc T.own _)
               (case aR => exact ilit_C [c] rfl (heap_alloc_new _ _) rfl (by decide))
               (case aB => exact below_alloc T.bel _)
               (case aS => exact (below_alloc T.bel _).size)
               (case aL => omega)
               intro v9 w9 hR9 hB9 hg9 hat9; clear hat9; obtain ⟨A9, c9, rfl⟩ := Kd.R_slice hR9; have hrow := blk_grown (blk_alloc T.row _) hg9 (Kd.R_ne T.own T.row (by decide)); have hout := blk_grown (blk_alloc T.out _) hg9 (Kd.R_ne T.own T.out (by decide)); obtain ⟨r0, r1, r2, r3, r4, r5⟩ := num_cells hrow; have e9 : (xs ++ [c]).length = xs.length + 1 := (by simp); rw [e9] at hR9; have T9 := pow_push T hR9 hB9 hrow hout hoo; obtain ⟨A', c', eA, hcA, hDA⟩ := dig_of_R T9.own; rw [e9] at eA hcA; injection eA with eA _ eC; subst eA eC; have ht := trim_call 1 e (xs ++ [c]) A9 c9 _ hDA.1 (by rw [e9]; exact hcA) hDg (.inl rfl) (B := B) (n := 1010) (by omega) (by rw [e9, HLX.out]; push_cast; omega) (by have := HK.out; omega) (by omega); rw [e9] at ht; have HT9 := Aside0.mk (And.intro T9 hDA); clear hg9 T9 hDA T hR9 e9)
            | (go_at_call 128; (with_reducible refine ht.mono ?_); rintro u w5 ⟨v5, rfl, hN5, hb5⟩; have T5 := HT9.out.1.below hb5; have hD5 := HT9.out.2.below hb5; obtain ⟨S5, D5, E5, A5, c5, rfl, hC5, hc5, hW5⟩ := hN5.at hD5; obtain ⟨q0, q1, q2, q3, q4, q5⟩ := num_cells T5.out; have HW5 := Aside0.mk hW5; have HT5 := Aside0.mk T5; clear hN5 hD5 hW5 hb5 T5 ht))
           refine bodyPost_ret (results_cell_row rfl _ _ w.heap.size 131 #[.int .i64 S5, .slice A5 D5.length c5, .int .i64 E5] (0, 0) _ rfl (num_put HT5.out.out) Tryz.underlying131 rfl (by kernel_rfl)) rfl ⟨_, rfl, ?_, below_put HT5.out.bel (by omega)⟩
           have hxy : n * 2 ^ (24 * (B : Int) + k0).toNat = 1 * (W (e + B).toNat * dval (xs ++ [c])) := by
            rw [HVAL.out, HTW.out, W_two, show (24 * (B : Int) + k0).toNat = 24 * (e + B).toNat + i from by have := HK.out; omega, Int.pow_add]; grind
           rw [hxy]
           exact ⟨S5, D5, E5, A5, c5, rfl, dig_put hC5 HT5.out.out, hc5, HW5.out⟩
end Go.Proofs.YtaoichlepfiliaaGreatDoor.Nw
end
section
namespace Go.Proofs.YtaoichlepfiliaaGreatDoor.Nw
set_option exponentiation.threshold 4000
open Go.RowKit Go.Proofs.YtaoichlepfiliaaGreatDoor.FltP Go.Proofs.YtaoichlepfiliaaGreatDoor.R Go.Proofs.YtaoichlepfiliaaGreatDoor.E Go.Proofs.YtaoichlepfiliaaGreatDoor.O Go.Proofs.YtaoichlepfiliaaGreatDoorW.PrintWords Go.Proofs.YtaoichlepfiliaaGreatDoorW.PrintLast
open Go.Proofs.YtaoichlepfiliaaGreatDoor.NumP Go.Proofs.YtaoichlepfiliaaGreatDoor.Adm
theorem two_dvd_iff (m j : Nat) (o : Int) (ho : o % 2 = 1) : (2 : Int) ^ j ∣ 2 ^ m * o ↔ j ≤ m := by
 constructor
 ·intro h
  apply Classical.byContradiction
  intro hlt
  obtain ⟨d, rfl⟩ : ∃ d, j = m + 1 + d := ⟨j - (m + 1), by omega⟩
  rw [Int.pow_add, Int.pow_add, Int.mul_assoc] at h
  have := Int.dvd_of_mul_dvd_mul_left (Int.ne_of_gt (Int.pow_pos (by omega) : (0 : Int) < 2 ^ m)) h
  obtain ⟨c, hc⟩ := this
  rw [show (2 : Int) ^ 1 * 2 ^ d * c = 2 * (2 ^ d * c) from by grind] at hc
  omega
 ·intro h
  obtain ⟨d, rfl⟩ : ∃ d, m = j + d := ⟨m - j, by omega⟩
  rw [Int.pow_add, Int.mul_assoc]
  exact Int.dvd_mul_right _ _
theorem low_dvd {S : Int} {D : List Int} {E : Int} {B n : Nat} {x o : Int} {t : Nat} (h : Worth S D E B n x) (hx : x ≠ 0) (hD : D ≠ []) (ht : t < 24) (ho : o % 2 = 1) (he : rd D 0 = 2 ^ t * o) (j : Nat) : (2 : Int) ^ j ∣ x ↔ (j : Int) ≤ 24 * E + t + 24 * B := by
 have hS : S ≠ 0 := by rw [h.sign]; intro h0; exact hx (Int.sign_eq_zero_iff_zero.1 h0)
 have hab := h.abs hS
 have hp := h.place
 cases D with
 | nil => exact absurd rfl hD
 | cons d0 ds =>
  have hr0 : rd (d0 :: ds) 0 = d0 := rfl
  rw [hr0] at he
  rw [← Int.dvd_natAbs, ← hab, W_two, dval, he]
  have e5 : (2 : Int) ^ (24 * (E + B).toNat) * (2 ^ t * o + 16777216 * dval ds) = 2 ^ (24 * (E + (B : Int)).toNat + t) * (o + 2 * (2 ^ (23 - t) * dval ds)) := by
   rw [show (16777216 : Int) = 2 ^ t * (2 * 2 ^ (23 - t)) from by rw [← Int.pow_succ', ← Int.pow_add, show t + (23 - t + 1) = 24 from by omega]; rfl, Int.pow_add]
   grind
  rw [e5, two_dvd_iff _ _ _ (by omega)]
  omega
theorem pow2_lt {a b : Nat} (h : (2 : Int) ^ a < 2 ^ b) : a < b := by
 rcases Nat.lt_or_ge a b with h1 | h1
 ·exact h1
 ·have := pow2_le h1; omega
set_option maxRecDepth 100000 in
set_option maxHeartbeats 4000000 in
theorem low_call {v : Value} {B n : Nat} {x : Int} {w : World} (h : NumAt w v B n x) (hx : x ≠ 0) (hn : n ≤ 399999) :
 Calls Tryz.prog 107 #[v] w fun e w' => ∃ r : Int, e = .returned (.int .i64 r) ∧ (∀ j : Nat, (2 : Int) ^ j ∣ x ↔ (j : Int) ≤ r + 24 * B) ∧ Below w.heap.size w w' := by
 have hu := Tryz.underlying131
 obtain ⟨S, D, E, A, c, rfl, hC, hc, hw⟩ := h
 have hS : S ≠ 0 := by rw [hw.sign]; intro h0; exact hx (Int.sign_eq_zero_iff_zero.1 h0)
 have e1 : (S == 0) = false := beq_eq_false_iff_ne.mpr hS
 have hval := hw.val
 have hlo := hw.lo
 have hhi := hw.hi
 have hpl := hw.place
 have htr := fun W (hb : Below w.heap.size w W) => trim_call S E D A c W (Kd.C_below hC.1 hb) hc hw.digits (worth_sgn hw hS) (B := B) (n := n) hlo hhi hpl (by omega)
 rw [hval] at htr
 have hB0 := below_alloc (Below.refl w.heap.size w) (.cells #[.int .i64 S, .slice A D.length c, .int .i64 E] 131)
 have HDW := Aside0.mk (And.intro hC hx)
 clear hval hw hlo hhi hpl hS hC hc hx
 go_enter Tryz.func107, Tryz.ntmps107
 go_upto_region 4 with (go_at_call 128; (with_reducible refine (htr _ hB0).mono ?_); rintro u w5 ⟨v5, rfl, hN5, hb5⟩; have hB5 := hB0.trans (hb5.mono hB0.size); obtain ⟨S5, D5, E5, A5, c5, rfl, hC5, hc5, hW5, hD5⟩ := hN5; have hD := hC5 _ (HDW.out.1.below hB5); have HW5 := Aside0.mk hW5; have HDD := Aside0.mk hD5; clear hW5 hD5 hb5 htr hC5)
 have hne : D5 ≠ [] := fun hh => by
  have := HW5.out.val
  rw [hh] at this
  simp [dval] at this
  exact HDW.out.2 this.symm
 have hlo := HW5.out.lo
 have hhi := HW5.out.hi
 have hdb := rd_dig HW5.out.digits 0
 have hd0 := HDD.out.resolve_left hne
 have hp : 0 < D5.length := List.length_pos_iff.mpr hne
 obtain ⟨b, o, rfl, hz⟩ := row_at hD.1 hp
 have x0 := hz 0 hp
 rw [Nat.add_zero] at x0
 clear hz
 have i1 : IntKind.i64.wrap (24 * E5) = 24 * E5 := wrapI _ (by omega) (by omega)
 have d1 : decide ((0 : Int) < (D5.length : Int)) = true := by simp; omega
 have d2 : decide (0 < D5.length) = true := by simp; omega
 have HNE := Aside0.mk hne
 clear hne hD hc5
 have x1 := bcell (below_alloc (Below.refl w5.heap.size w5) (.cells #[.int .i64 S5, .slice (some ⟨b, o, none⟩) D5.length c5, .int .i64 E5] 131)) x0
 obtain ⟨dd, hdd⟩ : ∃ dd, dd = rd D5 ((0 : Nat) : Int) := ⟨_, rfl⟩
 rw [← hdd] at x1 x0
 have hdb2 : 0 < dd ∧ dd < 16777216 := by
  have e : rd D5 ((0 : Nat) : Int) = rd D5 0 := rfl
  rw [hdd, e]; omega
 have HDE := Aside0.mk hdd
 clear hdd hdb hd0
 go_wp2
 go_loopw [4, 5] (fun v4 v5 wr => ∃ (t : Nat) (d : Int), v5 = .int .i64 d ∧ v4 = .int .i64 (24 * E5 + t) ∧ 0 < d ∧ d < 16777216 ∧ t < 24 ∧ Aside0 (dd = 2 ^ t * d) ∧ Below w.heap.size w wr) (fun _ v5 _ => (intOf v5).toNat)
 case atStart => exact ⟨0, dd, rfl, by simp, hdb2.1, hdb2.2, by omega, ⟨by simp⟩, below_alloc hB5 _⟩
 case round =>
  obtain ⟨t, d, rfl, rfl, hd0, hd1, ht, HV, hB⟩ := hrel
  have em : Int.tmod d 2 = d % 2 := Int.tmod_eq_emod_of_nonneg (by omega)
  have ed : Int.tdiv d 2 = d / 2 := Int.tdiv_eq_ediv_of_nonneg (by omega)
  by_cases h2 : d % 2 = 0
  ·obtain ⟨q, hq⟩ : ∃ q, q = d / 2 := ⟨_, rfl⟩
   rw [← hq] at ed
   rw [h2] at em
   have hnx : dd = 2 ^ (t + 1) * q := by rw [HV.out, Int.pow_succ, Int.mul_assoc]; congr 1; omega
   have ht2 : t + 1 < 24 := by
    have h3 : (2 : Int) ^ (t + 1) * 1 ≤ 2 ^ (t + 1) * q := Int.mul_le_mul_of_nonneg_left (by omega) (Int.le_of_lt (Int.pow_pos (by omega)))
    rw [← hnx, Int.mul_one] at h3
    exact pow2_lt (b := 24) (by omega)
   have hq2 : 0 < q ∧ q < d := by omega
   have i2 : IntKind.i64.wrap (24 * E5 + (t : Int) + 1) = 24 * E5 + (t : Int) + 1 := wrapI _ (by omega) (by omega)
   have i3 : IntKind.i64.wrap q = q := wrapI _ (by omega) (by omega)
   have HNX := Aside0.mk hnx
   clear hnx hq h2
   go_wp2
   exact ⟨⟨t + 1, q, rfl, by congr 1; push_cast; omega, hq2.1, by omega, ht2, HNX, hB⟩, by simp [intOf]; omega⟩
  ·have h3 : d % 2 = 1 := by omega
   rw [h3] at em
   have hres := low_dvd HW5.out HDW.out.2 HNE.out ht h3 (by rw [← HV.out, HDE.out]; rfl)
   have HR := Aside0.mk hres
   clear h2 hres h3
   go_wp2
   refine bodyPost_ret (v := .int .i64 (24 * E5 + (t : Int))) (by simp [results, Tryz.results107, go_sem]) rfl ⟨_, rfl, HR.out, hB⟩
end Go.Proofs.YtaoichlepfiliaaGreatDoor.Nw
end
