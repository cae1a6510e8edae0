/- What the proof needs of Cha: only what is used is left (wip/tools/prune.py). Conditions stand in each sentence. -/
import Derived.ArgAppend
import Derived.Test.YtioahkblhekgpaaGreatDoorQKChn
import Derived.Test.YtioahkblhekgpaaGreatDoorQKUnw
set_option linter.unusedVariables false
set_option linter.unusedSimpArgs false
namespace Go.Proofs.YtioahkblhekgpaaGreatDoor.E
end Go.Proofs.YtioahkblhekgpaaGreatDoor.E
namespace Go.Proofs.YtioahkblhekgpaaGreatDoor.FltP
end Go.Proofs.YtioahkblhekgpaaGreatDoor.FltP
namespace Go.Proofs.YtioahkblhekgpaaGreatDoor.O
end Go.Proofs.YtioahkblhekgpaaGreatDoor.O
namespace Go.Proofs.YtioahkblhekgpaaGreatDoor.R
end Go.Proofs.YtioahkblhekgpaaGreatDoor.R
namespace Go.Proofs.YtioahkblhekgpaaGreatDoorW.PrintLast
end Go.Proofs.YtioahkblhekgpaaGreatDoorW.PrintLast
namespace Go.Proofs.YtioahkblhekgpaaGreatDoorW.PrintMore
end Go.Proofs.YtioahkblhekgpaaGreatDoorW.PrintMore
namespace Go.Proofs.YtioahkblhekgpaaGreatDoorW.PrintWords
end Go.Proofs.YtioahkblhekgpaaGreatDoorW.PrintWords
namespace Go.Proofs.YtioahkblhekgpaaGreatDoor.Adm
open Go.RowKit Go.Proofs.YtioahkblhekgpaaGreatDoor.FltP Go.Proofs.YtioahkblhekgpaaGreatDoor.R Go.Proofs.YtioahkblhekgpaaGreatDoor.E Go.Proofs.YtioahkblhekgpaaGreatDoor.O Go.Proofs.YtioahkblhekgpaaGreatDoorW.PrintWords Go.Proofs.YtioahkblhekgpaaGreatDoorW.PrintLast Go.Proofs.YtioahkblhekgpaaGreatDoorW.PrintMore
def Ck (w : World) (base : Nat) (v : Value) (xs : List Nat) : Prop :=
 Kd.R (Kd.int .i64) 3 w base (fun _ => True) v (zi xs) ∨ ∃ b, v = .slice (some ⟨b, 0, none⟩) xs.length xs.length ∧ Kd.C (Kd.int .i64) w (some ⟨b, 0, none⟩) xs.length (zi xs)
theorem zi_length (xs : List Nat) : (zi xs).length = xs.length := List.length_map ..
theorem Ck.below {w w' : World} {base : Nat} {v : Value} {xs : List Nat} (h : Ck w base v xs) (hb : Below w.heap.size w w') : Ck w' base v xs := by
 rcases h with h | ⟨b, e, h⟩
 ·exact .inl (Kd.R_below h hb)
 ·exact .inr ⟨b, e, Kd.C_below h hb⟩
theorem Ck.form {w : World} {base : Nat} {v : Value} {xs : List Nat} (h : Ck w base v xs) (hn : 0 < xs.length) : ∃ g cap, v = .slice (some ⟨g, 0, none⟩) xs.length cap ∧ xs.length ≤ cap ∧ Kd.C (Kd.int .i64) w (some ⟨g, 0, none⟩) xs.length (zi xs) := by
 rcases h with h | ⟨b, e, h⟩
 ·obtain ⟨g, cap, rfl, -, -, -⟩ := Kd.R_form h (by rw [zi_length]; exact hn)
  have := Kd.R_reads' h
  rw [zi_length] at this ⊢
  exact ⟨g, cap, rfl, this.2.1, this.2.2⟩
 ·exact ⟨b, _, e, Nat.le_refl _, h⟩
theorem ck_cut {w : World} {base g n : Nat} {xs : List Nat} (h : Kd.C (Kd.int .i64) w (some ⟨g, 0, none⟩) n (zi xs)) (hn : n = xs.length) {m : Nat} (hm : m ≤ n) : Ck w base (.slice (some ⟨g, 0, none⟩) m m) (xs.take m) := by
 subst hn
 have hc := Kd.C_take (m := m) (by rw [zi_length]; exact h) (by rw [zi_length]; exact hm)
 have e : (zi xs).take m = zi (xs.take m) := by unfold zi; exact (List.map_take ..).symm
 have el : (xs.take m).length = m := by rw [List.length_take]; omega
 rw [e, zi_length] at hc
 refine .inr ⟨g, by rw [el], hc⟩
theorem ck_app {W w0 : World} {base : Nat} {v : Value} {xs : List Nat} (h : Ck W base v xs) (x : Nat) (HB : Below base w0 W) (hbase : base ≤ W.heap.size) (hl : xs.length ≤ 4000000) :
 ∃ v1 w1, (Builtin.append_ #[26, 26] 26 #[v, .slice (some ⟨W.heap.size, 0, none⟩) 1 1]).run Tryz.prog (W.alloc (.cells #[.int .i64 x] 3)) = .ok v1 w1 ∧ Kd.R (Kd.int .i64) 3 w1 base (fun _ => True) v1 (zi (xs ++ [x])) ∧ Below base w0 w1 := by
 obtain ⟨i0, hi, hz0, hz1, hz2⟩ := info_parts infoI
 have hen : ∀ ys : List Nat, encs (Value.int .i64) (zi ys) ++ [Value.int .i64 (x : Int)] = encs (Value.int .i64) (zi (ys ++ [x])) := fun ys => by unfold encs zi; simp
 have hnews : ∀ j u, ([Value.int .i64 (x : Int)] : List Value)[j]? = some u → (W.alloc (.cells #[.int .i64 x] 3)).cell? ((⟨W.heap.size, 0, none⟩ : Addr).add j) = some u := by
  simpa using World.news_of_block (cs := #[Value.int .i64 (x : Int)]) (t := 3) (fr := (0, 0)) (heap_alloc_new W (.cells #[.int .i64 x] 3))
 have h1 : ∀ u ∈ ([Value.int .i64 (x : Int)] : List Value), u.oneCell' = true := fun u hu => by rw [List.mem_singleton.mp hu]; rfl
 rcases h with h | ⟨b, rfl, h⟩
 ·have HO := Kd.own_of_R h
  obtain ⟨v1, w1, e, ho, hg, -⟩ := run_append_own (P := Tryz.prog) (W.alloc (.cells #[.int .i64 x] 3)) base 26 26 3 i0 _ 1 8 Tryz.underlying26 hi hz0 hz1 hz2 rfl (by omega) v (zi xs).length _ (HO.alloc _) ⟨W.heap.size, 0, none⟩ 1 1 [.int .i64 x] rfl hnews h1 (by rw [zi_length]; simp only [maxLen]; omega) (by rw [zi_length]; omega) (by simp; omega)
  have hg2 : W.grownBy w1 v.ownBlock := World.grownBy.trans (World.grownBy_alloc W _ _) hg
  refine ⟨v1, w1, e, Kd.R_of_own ?_ (fun _ _ => trivial), HB.grown hg2 hbase (own_base HO)⟩
  rw [← hen, zi_length, List.length_append, List.length_singleton, ← zi_length xs]
  exact ho
 ·have hold : ∀ j u, (encs (Value.int .i64) (zi xs))[j]? = some u → (W.alloc (.cells #[.int .i64 x] 3)).cell? ((⟨b, 0, none⟩ : Addr).add j) = some u := fun j u hu => by
   have hj : j < xs.length := by
    have := (List.getElem?_eq_some_iff.mp hu).1
    simpa [encs, zi] using this
   have hcj := row_cells h j hj
   rw [Addr.add_lit]
   have hu2 : u = .int .i64 (rd (zi xs) (j : Int)) := by
    rw [encs, List.getElem?_map] at hu
    have hz : (zi xs)[j]? = some (rd (zi xs) (j : Int)) := by
     rw [List.getElem?_eq_getElem (by rw [zi_length]; exact hj), rd, Int.toNat_natCast, List.getD_eq_getElem?_getD, List.getElem?_eq_getElem (by rw [zi_length]; exact hj)]; rfl
    rw [hz] at hu
    exact (Option.some.inj hu).symm
   rw [hu2]
   exact bcell (below_alloc (Below.refl _ _) _) hcj
  obtain ⟨v1, w1, e, ho, hg⟩ := run_append_arg_grows (P := Tryz.prog) (W.alloc (.cells #[.int .i64 x] 3)) 26 26 3 i0 _ 1 8 Tryz.underlying26 hi hz0 hz1 hz2 rfl (by omega) ⟨b, 0, none⟩ xs.length xs.length (encs (Value.int .i64) (zi xs)) (by simp [encs, zi]) hold ⟨W.heap.size, 0, none⟩ 1 1 [.int .i64 x] rfl hnews (by omega) (by simp only [maxLen]; omega) (by omega)
  have hg2 : W.grownBy w1 none := World.grownBy.trans (World.grownBy_alloc W _ _) hg
  refine ⟨v1, w1, e, Kd.R_of_own ?_ (fun _ _ => trivial), HB.grown hg2 hbase (fun k hk => by cases hk)⟩
  rw [← hen, zi_length, List.length_append, List.length_singleton]
  exact own_weaken ho (by simp; omega)
theorem wp_ck {ops : Array Oper} {rest : List Oper} {o : Oper} {a : Act} {Q : Exit → Act → World → Prop} {W w0 : World} {base b : Nat} {v : Value} {xs : List Nat} {x : Nat} (h : Ck W base v xs) (HB : Below base w0 W) (hbase : base ≤ W.heap.size) (hl : xs.length ≤ 4000000) (hgd : o.guard = none) (s y : Operand) (ho : o.op = .call { callee := .builtin .append, args := #[s, y], argTypes := #[26, 26] }) (hty : o.type = 26) (hs : a.eval s = v) (hy : a.eval y = .slice (some ⟨b, 0, none⟩) 1 1) (hb : b = W.heap.size)
 (hK : ∀ v1 w1, Kd.R (Kd.int .i64) 3 w1 base (fun _ => True) v1 (zi (xs ++ [x])) → Below base w0 w1 → wpList Tryz.prog ops Q rest (a.put o.dst v1) w1) : wpList Tryz.prog ops Q (o :: rest) a (W.alloc (.cells #[.int .i64 x] 3)) := by
 subst hb
 obtain ⟨v1, w1, hr, h1, h2⟩ := ck_app h x HB hbase hl
 refine wpList_plain hgd fun K hK' => ?_
 unfold Oper.wp execOp
 simp only [ho, resolve, invoke, builtin, Sem.run_bind, Sem.run_pure, Result.andThen_ok, List.map_toArray, List.map_cons, List.map_nil, hs, hy, hty, hr]
 exact hK' _ _ (hK v1 w1 h1 h2)
theorem next_chain {P : Nat → Geo.Pt} {e : Bool} {L s0 s : List Nat} {k p : Nat} (hst : (Geo.chain P e (L.take (k + 1))).reverse = (Geo.pop P e s0 p).reverse ++ [p]) (hp : Geo.pop P e s p = Geo.pop P e s0 p) (hs : Geo.pop P e s p = s)
 {w1 : World} {base : Nat} {v : Value} (hR : Kd.R (Kd.int .i64) 3 w1 base (fun _ => True) v (zi (s.reverse ++ [p]))) :
 ∃ A c, v = .slice A (Geo.chain P e (L.take (k + 1))).length c ∧ Kd.R (Kd.int .i64) 3 w1 base (fun _ => True) (.slice A (Geo.chain P e (L.take (k + 1))).length c) (zi (Geo.chain P e (L.take (k + 1))).reverse) := by
 rw [← hp, hs] at hst
 rw [← hst] at hR
 obtain ⟨A, c, hv⟩ := Kd.R_slice hR
 rw [zi_length, List.length_reverse] at hv
 subst hv
 exact ⟨A, c, rfl, hR⟩
theorem rev_at (b a : Nat) (r : List Nat) : rd (zi (b :: a :: r).reverse) (r.length : Int) = a ∧ rd (zi (b :: a :: r).reverse) ((r.length + 1 : Nat) : Int) = b := by
 unfold rd zi
 simp [List.getD_eq_getElem?_getD]
theorem rev_take (b a : Nat) (r : List Nat) : (b :: a :: r).reverse.take (r.length + 1) = (a :: r).reverse := by
 rw [List.reverse_cons]
 exact List.take_left' (by simp)
def way (hi : Bool) (us : List Nat) : List Nat := if hi = true then us.reverse else us
theorem way_length (hi : Bool) (us : List Nat) : (way hi us).length = us.length := by unfold way; split <;> simp
theorem way_mem {hi : Bool} {us : List Nat} {y : Nat} (h : y ∈ way hi us) : y ∈ us := by
 unfold way at h; split at h
 ·exact List.mem_reverse.mp h
 ·exact h
theorem at_closure (hi : Bool) (A2 : Option Addr) (c2 : Nat) (us : List Nat) (B : Nat) {i : Nat} (hil : i < us.length) (W : World) (hB : W.cell? ⟨B, 0, none⟩ = some (.slice A2 us.length c2)) (hul : Kd.C (Kd.int .i64) W A2 us.length (zi us)) :
 Calls Tryz.prog (if hi = true then 87 else 86) #[.int .i64 i, .pointer (some ⟨B, 0, none⟩)] W fun e w' => e = .returned (.int .i64 ((way hi us).getD i 0 : Nat)) ∧ Below W.heap.size W w' := by
 cases hi
 ·exact low_closure A2 c2 us B hil W hB hul
 ·have h := high_closure A2 c2 us B hil W hB hul
  rw [show us.getD (us.length - 1 - i) 0 = (way true us).getD i 0 from by
   unfold way
   rw [if_pos rfl, List.getD_eq_getElem?_getD, List.getD_eq_getElem?_getD, List.getElem?_reverse hil]] at h
  exact h
theorem chain_step (P : Nat → Geo.Pt) (e : Bool) (L : List Nat) {k : Nat} (h : k < L.length) : (Geo.chain P e (L.take (k + 1))).reverse = (Geo.pop P e (Geo.chain P e (L.take k)) (L.getD k 0)).reverse ++ [L.getD k 0] := by
 unfold Geo.chain
 rw [List.take_add_one, List.getElem?_eq_getElem h, Option.toList, List.foldl_append, List.getD_eq_getElem?_getD, List.getElem?_eq_getElem h]
 simp [Geo.step]
theorem pop_sub (P : Nat → Geo.Pt) (e : Bool) (p : Nat) : ∀ (s : List Nat), (Geo.pop P e s p).length ≤ s.length ∧ ∀ y ∈ Geo.pop P e s p, y ∈ s
 | [] => ⟨Nat.le_refl _, fun _ h => h⟩
 | [a] => ⟨Nat.le_refl _, fun _ h => h⟩
 | b :: a :: r => by
  unfold Geo.pop
  split
  ·exact ⟨Nat.le_refl _, fun _ h => h⟩
  ·have ih := pop_sub P e p (a :: r)
   exact ⟨Nat.le_succ_of_le ih.1, fun y hy => List.mem_cons_of_mem _ (ih.2 y hy)⟩
theorem chain_sub (P : Nat → Geo.Pt) (e : Bool) (L : List Nat) : ∀ k, k ≤ L.length → (Geo.chain P e (L.take k)).length ≤ k ∧ ∀ y ∈ Geo.chain P e (L.take k), y ∈ L
 | 0, _ => ⟨by simp [Geo.chain], fun y hy => by simp [Geo.chain] at hy⟩
 | k + 1, h => by
  have ih := chain_sub P e L k (by omega)
  have hs := chain_step P e L (k := k) (by omega)
  have hp := pop_sub P e (L.getD k 0) (Geo.chain P e (L.take k))
  constructor
  ·have := congrArg List.length hs
   rw [List.length_append, List.length_reverse, List.length_reverse, List.length_singleton] at this
   omega
  ·intro y hy
   rw [← List.mem_reverse, hs, List.mem_append] at hy
   rcases hy with hy | hy
   ·exact ih.2 y (hp.2 y (List.mem_reverse.mp hy))
   ·rw [List.mem_singleton.mp hy, List.getD_eq_getElem?_getD, List.getElem?_eq_getElem (by omega)]
    exact List.getElem_mem _
theorem keep_S {W wr w w1 : World} {p1 p2 : Addr} {v1 v2 : Value} (hb : Below w.heap.size w w1) (h : w.cell? p1 = some v1 ∧ w.cell? p2 = some v2 ∧ Below W.heap.size W w ∧ Below wr.heap.size wr w) : w1.cell? p1 = some v1 ∧ w1.cell? p2 = some v2 ∧ Below W.heap.size W w1 ∧ Below wr.heap.size wr w1 :=
 ⟨bcell hb h.1, bcell hb h.2.1, h.2.2.1.trans (hb.mono h.2.2.1.size), h.2.2.2.trans (hb.mono h.2.2.2.size)⟩
set_option maxRecDepth 100000 in
set_option maxHeartbeats 4000000 in
theorem chain_calls (hi : Bool) (A : Option Addr) (c : Nat) (l : List S) (A2 : Option Addr) (c2 : Nat) (us : List Nat) (B BL BE : Nat) (ed : Bool) (hg : ∀ x ∈ l, gp x = true) (hu : ∀ y ∈ us, y < l.length) (hn : us.length ≤ 1048576) (W : World) (hB : W.cell? ⟨B, 0, none⟩ = some (.slice A2 us.length c2)) (hBL : W.cell? ⟨BL, 0, none⟩ = some (.slice A l.length c)) (hBE : W.cell? ⟨BE, 0, none⟩ = some (.bool ed)) (hl : Kd.C k32 W A l.length l) (hul : Kd.C (Kd.int .i64) W A2 us.length (zi us)) :
 Calls Tryz.prog 85 #[.int .i64 us.length, .func (.func (if hi = true then 87 else 86)) #[] #[.pointer (some ⟨B, 0, none⟩)], .func (.func 84) #[] #[.pointer (some ⟨BL, 0, none⟩), .pointer (some ⟨BE, 0, none⟩)]] W
  fun e w' => ∃ v : Value, e = .returned v ∧ Kd.R (Kd.int .i64) 3 w' W.heap.size (fun _ => True) v (zi (Geo.chain (PT l) ed (way hi us)).reverse) ∧ Below W.heap.size W w' := by
 have hat := fun i (hil : i < us.length) W' (hb : Below W.heap.size W W') => at_closure hi A2 c2 us B hil W' (bcell hb hB) (Kd.C_below hul hb)
 have hkp := fun i j k (h1 : i < l.length) (h2 : j < l.length) (h3 : k < l.length) W' (hb : Below W.heap.size W W') => keep_closure A c l BL BE ed hg h1 h2 h3 W' (bcell hb hBL) (bcell hb hBE) (Kd.C_below hl hb)
 have hwl := way_length hi us
 have hwm : ∀ y ∈ way hi us, y < l.length := fun y hy => hu y (way_mem hy)
 cases hi
 all_goals
  simp only [Bool.false_eq_true, if_false, if_true] at hat ⊢
  generalize way _ us = L at *
  clear hB hBL hBE hl hul hu
  go_enter Tryz.func85, Tryz.ntmps85
  go_wp2
  go_loopw [7, 12] (fun v i wr => ∃ (k : Nat) (s : List Nat) (Av : Option Addr) (cv : Nat), k ≤ us.length ∧ i = .int .i64 k ∧ v = .slice Av s.length cv ∧ s = Geo.chain (PT l) ed (L.take k) ∧ Kd.R (Kd.int .i64) 3 wr W.heap.size (fun _ => True) (.slice Av s.length cv) (zi s.reverse) ∧ Below W.heap.size W wr) (fun _ i _ => us.length - (intOf i).toNat)
  case atStart => exact ⟨0, [], none, 0, Nat.zero_le _, rfl, rfl, rfl, Kd.R_nil _ _ _ _ _, Below.refl _ _⟩
  case round =>
   obtain ⟨k, s0, Av, cv, hk, rfl, rfl, hs0, hR, hB⟩ := hrel
   by_cases hlt : k < us.length
   ·have hst := chain_step (PT l) ed L (k := k) (by omega)
    have hsb := chain_sub (PT l) ed L k (by omega)
    have hac := hat k hlt _ hB
    have hpl : L.getD k 0 < l.length := hwm _ (by rw [List.getD_eq_getElem?_getD, List.getElem?_eq_getElem (by omega)]; exact List.getElem_mem _)
    rw [← hs0] at hst hsb
    generalize L.getD k 0 = p at *
    have HST := Aside0.mk hst
    clear hst hs0
    have d1 : decide ((k : Int) < (us.length : Int)) = true := by simp; omega
    have d2 : decide (k < us.length) = true := by simp; omega
    go_wp2_with (first | (go_at_call 86; (with_reducible refine hac.mono ?_); rintro u w1 ⟨rfl, hb1⟩) | (go_at_call 87; (with_reducible refine hac.mono ?_); rintro u w1 ⟨rfl, hb1⟩))
    have hB1 := hB.trans (hb1.mono hB.size)
    have hR1 : Ck w1 W.heap.size (.slice Av s0.length cv) s0.reverse := .inl (Kd.R_below hR hb1)
    clear hR hac hb1 hB
    obtain ⟨wo, hwo⟩ : ∃ wo : World, wo = w1 := ⟨_, rfl⟩
    clear hwo
    go_loopw [7, 10] (fun v i wq => ∃ (s : List Nat) (n : Nat) (Aq : Option Addr) (cq : Nat), v = .slice Aq n cq ∧ i = .int .i64 n ∧ Aside0 (n = s.length) ∧ Aside0 (Geo.pop (PT l) ed s p = Geo.pop (PT l) ed s0 p) ∧ Ck wq W.heap.size (.slice Aq n cq) s.reverse ∧ Below W.heap.size W wq ∧ n ≤ us.length ∧ ∀ y ∈ s, y < l.length) (fun _ i _ => (intOf i).toNat)
    case atStart => exact ⟨s0, s0.length, Av, cv, rfl, rfl, ⟨rfl⟩, ⟨rfl⟩, hR1, hB1, by omega, fun y hy => hwm _ (hsb.2 y hy)⟩
    case round =>
     obtain ⟨s, n, Aq, cq, rfl, rfl, HN, HP, hC, hBq, hsl, hsm⟩ := hrel
     by_cases h1 : 1 < n
     ·obtain ⟨b, a, r, rfl⟩ : ∃ b a r, s = b :: a :: r := by
       have := HN.out
       match s, this with
       | [], h => simp at h; omega
       | [b], h => simp at h; omega
       | b :: a :: r, _ => exact ⟨b, a, r, rfl⟩
      obtain ⟨m, hm⟩ : ∃ m, m = r.length := ⟨_, rfl⟩
      obtain ⟨m1, hm1⟩ : ∃ m1, m1 = m + 1 := ⟨_, rfl⟩
      have hn2 : n = m + 2 := by have := HN.out; simp at this; omega
      obtain ⟨g, cap, hv, hcap, hCC⟩ := hC.form (by simp)
      injection hv with hv1 hv2 hv3
      subst hv1 hv3
      have hra := rev_at b a r
      have hrt := rev_take b a r
      rw [← hv2] at hCC hcap
      rw [← hm] at hra hrt
      have ca := row_cells hCC m (by omega)
      have cb := row_cells hCC m1 (by omega)
      rw [hra.1, Nat.zero_add] at ca
      rw [hm1, hra.2, ← hm1, Nat.zero_add] at cb
      have hCk := ck_cut (base := W.heap.size) hCC (by rw [List.length_reverse]; exact HN.out) (m := m1) (by omega)
      rw [hm1, hrt, ← hm1] at hCk
      have ha := hsm a (by simp)
      have hb := hsm b (by simp)
      have hkd := hkp a b p ha hb hpl wr.drew (below_drew1 hBq)
      have hpp : Geo.pop (PT l) ed (b :: a :: r) p = if Geo.keep (PT l) ed a b p then b :: a :: r else Geo.pop (PT l) ed (a :: r) p := by rw [Geo.pop]
      have HPP := Aside0.mk hpp
      have hn1 : n = m1 + 1 := by omega
      have HM := Aside0.mk (And.intro hm (And.intro hm1 hn2))
      have e1 : decide ((1 : Int) < (n : Int)) = true := by simp; omega
      have e2 : decide (1 < n) = true := by simp; omega
      have i1 : IntKind.i64.wrap ((n : Int) - 2) = (m : Int) := by rw [wrapI _ (by omega) (by omega)]; omega
      have i2 : IntKind.i64.wrap ((n : Int) - 1) = (m1 : Int) := by rw [wrapI _ (by omega) (by omega)]; omega
      have e3 : decide ((m : Int) < (n : Int)) = true := by simp; omega
      have e4 : decide (m < n) = true := by simp; omega
      have e5 : decide ((m1 : Int) < (n : Int)) = true := by simp; omega
      have e6 : decide (m1 < n) = true := by simp; omega
      have hlt1 : m < n := by omega
      have hlt2 : m1 < n := by omega
      have hlt3 : m1 ≤ cq := by omega
      have hS : wr.cell? ⟨g, m, none⟩ = some (.int .i64 a) ∧ wr.cell? ⟨g, m1, none⟩ = some (.int .i64 b) ∧ Below W.heap.size W wr ∧ Below wr.heap.size wr wr := ⟨ca, cb, hBq, Below.refl _ _⟩
      clear hpp hm hm1 hn2 hn1 hra hrt ca cb hv2
      generalize Geo.keep (PT l) ed a b p = kp at *
      go_wp2
      go_region_held (fun w' => w'.cell? ⟨g, m, none⟩ = some (.int .i64 a) ∧ w'.cell? ⟨g, m1, none⟩ = some (.int .i64 b) ∧ Below W.heap.size W w' ∧ Below wr.heap.size wr w')
       (first | exact hS | exact keep_S (below_drew1 (Below.refl _ _)) hS | (exact keep_S (by assumption) (by assumption)))
       (first | (go_at_call 84; (with_reducible refine hkd.mono ?_); rintro o w2 ⟨rfl, hb2⟩))
      rename_i hH
      have HB1 := hH.2.2.1
      have HB2 := hH.2.2.2
      clear hH hS hkd hkp hat
      cases kp
      ·have hpq : Geo.pop (PT l) ed (a :: r) p = Geo.pop (PT l) ed s0 p := by
        have := HPP.out
        rw [if_neg (by decide)] at this
        rw [← this]; exact HP.out
       have HPQ := Aside0.mk hpq
       clear hpq
       go_wp2
       exact ⟨⟨a :: r, m1, some ⟨g, 0, none⟩, m1, rfl, rfl, ⟨by have := HM.out; simp; omega⟩, HPQ, hCk.below HB2, HB1, by omega, fun y hy => hsm y (List.mem_cons_of_mem _ hy)⟩, by simp [intOf]; omega⟩
      ·have hs : Geo.pop (PT l) ed (b :: a :: r) p = b :: a :: r := by
        have := HPP.out
        rw [if_pos rfl] at this
        exact this
       have HS := Aside0.mk hs
       clear hs
       have hll : (b :: a :: r).reverse.length ≤ 4000000 := by rw [List.length_reverse, ← HN.out]; omega
       have hC2 := hC.below HB2
       have HLL := Aside0.mk hll
       clear hll hC
       go_wp2_with (refine wp_ck hC2 HB1 HB1.size HLL.out rfl (.tmp 46) (.tmp 48) rfl rfl rfl rfl (by simp) ?_; intro v1 w1 hR2 hB2; obtain ⟨A1, c1, rfl, hR3⟩ := next_chain HST.out HP.out HS.out hR2)
       exact ⟨⟨k + 1, _, A1, c1, by omega, by go_num, rfl, rfl, hR3, hB2⟩, by simp [intOf]; omega⟩
     ·have hs : Geo.pop (PT l) ed s p = s := by
       have := HN.out
       match s, this with
       | [], _ => rfl
       | [b], _ => rfl
       | b :: a :: r, h => simp at h; omega
      have HS := Aside0.mk hs
      clear hs
      have e1 : decide ((1 : Int) < (n : Int)) = false := by simp; omega
      have e2 : decide (1 < n) = false := by simp; omega
      have hll : s.reverse.length ≤ 4000000 := by rw [List.length_reverse, ← HN.out]; omega
      go_wp2
      go_quiet (fail)
      go_wp2_with (refine wp_ck (hC.below (pw_below_drewN (Below.refl _ _) _)) (hBq.trans (pw_below_drewN (Below.refl _ _) _)) (by simpa using hBq.size) hll rfl (.tmp 46) (.tmp 48) rfl rfl rfl rfl (by simp) ?_; intro v1 w1 hR2 hB2; obtain ⟨A1, c1, rfl, hR3⟩ := next_chain HST.out HP.out HS.out hR2)
      exact ⟨⟨k + 1, _, A1, c1, by omega, by go_num, rfl, rfl, hR3, hB2⟩, by simp [intOf]; omega⟩
   ·obtain rfl : k = us.length := by omega
    have d1 : decide ((us.length : Int) < (us.length : Int)) = false := by simp
    have hL : L.take us.length = L := List.take_of_length_le (by omega)
    rw [hL] at hs0
    have HS0 := Aside0.mk hs0
    clear hs0 hL
    go_wp2
    go_ret
    rw [← HS0.out]
    exact ⟨_, rfl, hR, hB⟩
end Go.Proofs.YtioahkblhekgpaaGreatDoor.Adm
