/- What the proof needs of Mdi: only what is used is left (wip/tools/prune.py). Conditions stand in each sentence. -/
import Derived.Test.YtjiolfpahollkaaGreatDoorQNMco
section
set_option linter.unusedVariables false
set_option linter.unusedSimpArgs false
namespace Go.Proofs.YtjiolfpahollkaaGreatDoor.Adm
end Go.Proofs.YtjiolfpahollkaaGreatDoor.Adm
namespace Go.Proofs.YtjiolfpahollkaaGreatDoorW.PrintLast
end Go.Proofs.YtjiolfpahollkaaGreatDoorW.PrintLast
namespace Go.Proofs.YtjiolfpahollkaaGreatDoorW.PrintMore
end Go.Proofs.YtjiolfpahollkaaGreatDoorW.PrintMore
namespace Go.Proofs.YtjiolfpahollkaaGreatDoorW.PrintWords
end Go.Proofs.YtjiolfpahollkaaGreatDoorW.PrintWords
namespace Go.Proofs.YtjiolfpahollkaaGreatDoor.Msh
open Go.RowKit Go.Sort Go.Proofs.YtjiolfpahollkaaGreatDoor.Adm Go.Proofs.YtjiolfpahollkaaGreatDoorW.PrintWords Go.Proofs.YtjiolfpahollkaaGreatDoorW.PrintLast Go.Proofs.YtjiolfpahollkaaGreatDoorW.PrintMore
set_option maxRecDepth 100000 in
set_option maxHeartbeats 4000000 in
theorem idxI_call (B : Nat) (A : Option Addr) (c : Nat) (l : List Int) (w : World) (hl : (Kd.int .i64).C w A l.length l) (p : Int → Bool) (hp : ∀ x W, Below w.heap.size w W → Calls Tryz.prog 170 #[(Value.int .i64) x, .pointer (some ⟨B, 0, none⟩)] W fun e w' => e = .returned (.bool (p x)) ∧ Below W.heap.size W w') :
    Calls Tryz.prog 194 #[.slice A l.length c, .func (.func 170) #[] #[.pointer (some ⟨B, 0, none⟩)]] w fun e w' => e = .returned (.int .i64 (idxF p 0 l)) ∧ Below w.heap.size w w' := by
  have hm := hl.2.1
  go_enter Tryz.func194, Tryz.ntmps194
  go_wp2
  go_loopw [8] (fun x wr => ∃ (n : Nat), x = .int .i64 n ∧ n ≤ l.length ∧ Below w.heap.size w wr ∧ Aside0 (idxF p n (l.drop n) = idxF p 0 l)) (fun x _ => l.length - (intOf x).toNat)
  case atStart => exact ⟨0, rfl, Nat.zero_le _, Below.refl _ _, ⟨rfl⟩⟩
  case round =>
    obtain ⟨n, rfl, hn, hB, hi⟩ := hrel
    by_cases hlt : n < l.length
    · have d1 : decide ((n : Int) < (l.length : Int)) = true := by simp; omega
      have d2 : decide (n < l.length) = true := by simp; omega
      have d3 : decide ((0 : Int) ≤ n) = true := by simp
      obtain ⟨ad, rfl, hx0⟩ := (Kd.reads_of_C (d := 0) (Kd.C_below hl hB)).at_ n (by omega) (by omega)
      have hr : rdOf 0 l (n : Int) = l[n] := by unfold rdOf; rw [Int.toNat_natCast, getD_at hlt]
      rw [Int.toNat_natCast, hr] at hx0
      replace hi := hi.out
      rw [List.drop_eq_getElem_cons hlt, idxF] at hi
      have hcl := fun W h => hp l[n] W h
      clear hr
      generalize l[n] = x at *
      cases hg : p x
      · simp only [hg] at hcl
        rw [hg, if_neg (by decide)] at hi
        replace hi := Aside0.mk hi
        go_wp2_with (go_at_call 170; (with_reducible refine (hcl _ hB).mono ?_); rintro y w1 ⟨rfl, hb1⟩)
        go_roundw
        case rel => exact ⟨n + 1, by go_num, by omega, hB.trans (hb1.mono hB.size), hi⟩
        case measure => simp [intOf]; omega
      · simp only [hg] at hcl
        rw [hg, if_pos rfl] at hi
        replace hi := Aside0.mk hi
        go_wp2_with (go_at_call 170; (with_reducible refine (hcl _ hB).mono ?_); rintro y w1 ⟨rfl, hb1⟩)
        go_ret
        rw [← hi.out]
        exact ⟨rfl, hB.trans (hb1.mono hB.size)⟩
    · have d1 : decide ((n : Int) < (l.length : Int)) = false := by simp; omega
      have d2 : decide (n < l.length) = false := by simp; omega
      replace hi := hi.out
      rw [List.drop_eq_nil_of_le (by omega), idxF] at hi
      replace hi := Aside0.mk hi
      go_wp2
      go_ret
      rw [← hi.out]
      exact ⟨rfl, hB⟩
theorem clearI_run (W : World) (ty : TypeId) (b o n c : Nat) (hn : 0 < n) (hc : ∀ j, j < n → (W.cell? ⟨b, o + j, none⟩).isSome = true) (hf : ∀ j, j < n → W.frozen? ⟨b, o + j, none⟩ = false) :
    (Builtin.clear_ #[59] ty #[.slice (some ⟨b, o, none⟩) n c]).run Tryz.prog W = .ok (.tuple #[]) (W.setCells b o (List.replicate n ((Value.int .i64) 0))) :=
  Lib.run_clear_slice W _ _ ty ((Value.int .i64) 0) Tryz.underlying59 Tryz.zeroValue3 rfl rfl b o n c hn hc hf
set_option maxRecDepth 1000000 in
set_option maxHeartbeats 8000000 in
theorem delI_call (B : Nat) {w : World} {base : Nat} {M : Nat → Prop} {v : Value} {l : List Int} (hR : (Kd.int .i64).R 3 w base M v l) (hn : l.length ≤ 4294967296) (p : Int → Bool) (hp : ∀ x W, w.grownBy W v.ownBlock → Calls Tryz.prog 170 #[(Value.int .i64) x, .pointer (some ⟨B, 0, none⟩)] W fun e w' => e = .returned (.bool (p x)) ∧ Below W.heap.size W w') :
    Calls Tryz.prog 169 #[v, .func (.func 170) #[] #[.pointer (some ⟨B, 0, none⟩)]] w fun e w' => ∃ v', e = .returned v' ∧ (Kd.int .i64).R 3 w' base M v' (l.filter fun x => !p x) ∧ w.grownBy w' v.ownBlock ∧ v'.ownBlock = v.ownBlock := by
  obtain ⟨A, c, rfl, hcap, hC⟩ := Kd.R_reads hR
  have hix := idxI_call B A c l w hC p (fun x W hb => hp x W ⟨hb.os, hb.tape, hb.output, hb.size, fun q hq _ => hb.block q hq⟩)
  rcases idxF_spec (p := p) (z := 0) l 0 with ⟨h1, h2⟩ | ⟨k, hk, h1, h2, h3⟩
  · rw [h1] at hix
    have e : (l.filter fun x => !p x) = l := filter_none h2
    rw [e]
    have HR := Aside0.mk hR
    clear hR h1 h2 e hp hC
    go_enter Tryz.func169, Tryz.ntmps169
    go_wp2_with (go_at_call 194; (with_reducible refine hix.mono ?_); rintro y w1 ⟨rfl, hb1⟩)
    go_ret
    exact ⟨_, rfl, Kd.R_below HR.out hb1, ⟨hb1.os, hb1.tape, hb1.output, hb1.size, fun q hq _ => hb1.block q hq⟩, rfl⟩
  · rw [h1, Nat.zero_add] at hix
    obtain ⟨g, cap, hs, -⟩ := Kd.R_form hR (by omega)
    injection hs with hs1 _ hs2
    subst hs1 hs2
    have d0 : (((k : Nat) : Int) == -1) = false := beq_eq_false_iff_ne.mpr (by omega)
    have HM := Aside0.mk (Dl.start (p := p) hk h2 h3)
    have HD := Aside0.mk (⟨hR, grown_refl _ _⟩ : Dm (Value.int .i64) (fun _ => rfl) 3 base M w w g c l)
    have ik : IntKind.i64.wrap ((k : Int) + 1) = (k : Int) + 1 := wrapN (by omega) (by omega)
    clear hR h1 h2 h3 hC
    go_enter Tryz.func169, Tryz.ntmps169
    go_wp2_with (go_at_call 194; (with_reducible refine hix.mono ?_); rintro y w1 ⟨rfl, hb1⟩)
    clear hix ik
    go_loopw [5, 6] (fun s5 s6 wr => ∃ (kk j : Nat) (zs : List Int), s5 = .int .i64 kk ∧ s6 = .int .i64 j ∧ j ≤ l.length ∧ Aside0 (Dm (Value.int .i64) (fun _ => rfl) 3 base M w wr g c zs) ∧ Aside0 (Dl p 0 l zs kk j)) (fun _ s6 _ => l.length - (intOf s6).toNat)
    case atStart => exact ⟨k, k + 1, l, rfl, by go_num, hk, ⟨HD.out.below hb1⟩, HM⟩
    case round =>
      clear HM HD hb1
      obtain ⟨kk, j, zs, rfl, rfl, hj, HD, HM⟩ := hrel
      have hlz := HM.out.len
      have hkl := HM.out.lt
      have ij : IntKind.i64.wrap ((j : Int) + 1) = (j : Int) + 1 := wrapN (by omega) (by omega)
      have ikk : IntKind.i64.wrap ((kk : Int) + 1) = (kk : Int) + 1 := wrapN (by omega) (by omega)
      by_cases hlt : j < l.length
      · have d1 : decide ((j : Int) < (l.length : Int)) = true := by simp; omega
        have d2 : decide (j < l.length) = true := by simp; omega
        have d3 : decide (kk < l.length) = true := by simp; omega
        have d4 : decide ((kk : Int) < (l.length : Int)) = true := by simp; omega
        obtain ⟨x0, -⟩ := HD.out.cell 0 (show j < zs.length by omega)
        rw [HM.out.high j (Nat.le_refl _)] at x0
        have hcl := hp (l.getD j 0) wr HD.out.grn
        have HM1 := HM
        generalize hx : l.getD j 0 = x at *
        have HX := Aside0.mk hx
        clear hx hlz
        cases hg : p x
        · simp only [hg] at hcl
          have hf1 : Aside0 (∀ w2, Below wr.heap.size wr w2 → w2.frozen? ⟨g, kk, none⟩ = false ∧ ∃ u, w2.cell? ⟨g, kk, none⟩ = some u) := ⟨fun w2 hb => by
            have := (HD.out.below hb).cell 0 (show kk < zs.length by have := HM.out.len; omega)
            exact ⟨this.2, _, this.1⟩⟩
          have HG := Aside0.mk hg
          clear hg
          go_wp2_with (go_at_call 170; (with_reducible refine hcl.mono ?_); rintro y w2 ⟨rfl, hb2⟩; have hff := hf1.out w2 hb2; obtain ⟨ff1, uu, ff2⟩ := hff)
          go_roundw
          case rel =>
            have hkeep := HM.out.keep hlt (by rw [HX.out]; exact HG.out)
            rw [HX.out] at hkeep
            exact ⟨kk + 1, j + 1, _, by go_num, by go_num, by omega, ⟨(HD.out.below hb2).set kk _⟩, ⟨hkeep⟩⟩
          case measure => simp [intOf]; omega
        · simp only [hg] at hcl
          have HG := Aside0.mk hg
          clear hg
          go_wp2_with (go_at_call 170; (with_reducible refine hcl.mono ?_); rintro y w2 ⟨rfl, hb2⟩)
          go_roundw
          case rel => exact ⟨kk, j + 1, zs, rfl, by go_num, by omega, ⟨HD.out.below hb2⟩, ⟨HM.out.skip hlt (by rw [HX.out]; exact HG.out)⟩⟩
          case measure => simp [intOf]; omega
      · obtain rfl : j = l.length := by omega
        have d1 : decide ((l.length : Int) < (l.length : Int)) = false := by simp
        have hcl : ∀ ty, (Builtin.clear_ #[59] ty #[.slice (some ⟨g, kk, none⟩) (l.length - kk) (c - kk)]).run Tryz.prog wr = .ok (.tuple #[]) (wr.setCells g kk (List.replicate (l.length - kk) ((Value.int .i64) 0))) := fun ty => clearI_run wr ty g kk _ _ (by omega) (fun t ht => by rw [(HD.out.cell 0 (show kk + t < zs.length by omega)).1]; rfl) (fun t ht => (HD.out.cell 0 (show kk + t < zs.length by omega)).2)
        have d3 : decide (kk ≤ l.length) = true := by simp; omega
        have d4 : decide (kk ≤ c) = true := by simp; omega
        have d5 : decide ((kk : Int) ≤ (l.length : Int)) = true := by simp; omega
        have d6 : decide ((kk : Int) ≤ (c : Int)) = true := by simp; omega
        have hu := Tryz.underlying59
        go_wp2
        go_ret
        have hcut := HD.out.cut 0 (kk := kk) (n := l.length - kk) (by omega)
        rw [HM.out.done] at hcut
        exact ⟨_, rfl, hcut.1, hcut.2, rfl⟩
end Go.Proofs.YtjiolfpahollkaaGreatDoor.Msh
end
section
set_option linter.unusedVariables false
set_option linter.unusedSimpArgs false
namespace Go.Proofs.YtjiolfpahollkaaGreatDoor.Adm
end Go.Proofs.YtjiolfpahollkaaGreatDoor.Adm
namespace Go.Proofs.YtjiolfpahollkaaGreatDoor.E
end Go.Proofs.YtjiolfpahollkaaGreatDoor.E
namespace Go.Proofs.YtjiolfpahollkaaGreatDoor.Mp
end Go.Proofs.YtjiolfpahollkaaGreatDoor.Mp
namespace Go.Proofs.YtjiolfpahollkaaGreatDoor.R
end Go.Proofs.YtjiolfpahollkaaGreatDoor.R
namespace Go.Proofs.YtjiolfpahollkaaGreatDoorW.PrintLast
end Go.Proofs.YtjiolfpahollkaaGreatDoorW.PrintLast
namespace Go.Proofs.YtjiolfpahollkaaGreatDoorW.PrintMore
end Go.Proofs.YtjiolfpahollkaaGreatDoorW.PrintMore
namespace Go.Proofs.YtjiolfpahollkaaGreatDoorW.PrintWords
end Go.Proofs.YtjiolfpahollkaaGreatDoorW.PrintWords
namespace Go.Proofs.YtjiolfpahollkaaGreatDoor.Msh
open Go.RowKit Go.Sort Go.ChangeMaps Go.MapKept Go.Proofs.YtjiolfpahollkaaGreatDoor.Mp Go.Proofs.YtjiolfpahollkaaGreatDoor.Adm Go.Proofs.YtjiolfpahollkaaGreatDoor.R Go.Proofs.YtjiolfpahollkaaGreatDoor.E Go.Proofs.YtjiolfpahollkaaGreatDoorW.PrintWords Go.Proofs.YtjiolfpahollkaaGreatDoorW.PrintLast Go.Proofs.YtjiolfpahollkaaGreatDoorW.PrintMore
def fL (f : Int × Int → Option Value) (t : Tr) : Nat → Int × Int → Option Value
  | 0 => f
  | 1 => upd f (t.1, t.2.1) none
  | 2 => upd (upd f (t.1, t.2.1) none) (t.2.1, t.2.2) none
  | _ => upd (upd (upd f (t.1, t.2.1) none) (t.2.1, t.2.2) none) (t.2.2, t.1) none
def killE (O : List Tr) (t : Tr) : Int := if behind O t.1 t.2.1 = some t.2.2 then 0 else 5
def killO (O : List Tr) (t : Tr) : List Tr := if behind O t.1 t.2.1 = some t.2.2 then O.filter (· ≠ own t) else O
structure KGo (w wq : World) (mb : Nat) (A : Option Addr) (cp ab sb fb : Nat) (l : List S) (O : List Tr) (f g : Int × Int → Option Value) (M : Nat → Prop) (a b c : Int) (k : Nat) (s : Int → Option Value) : Prop where
  raw : Raw wq mb A cp ab sb fb l (O.length : Nat) (fL f (a, b, c) k) g s (Ef (fL f (a, b, c) k)) M
  fr : Fr M w wq
theorem ef_off {f : Int × Int → Option Value} {x y u v : Int} (h : Ef f u v) (hn : ¬ (u = x ∧ v = y)) : Ef (upd f (x, y) none) u v := by
  unfold Ef upd at *
  rw [if_neg (fun e => by injection e with e1 e2; exact hn ⟨e1, e2⟩)]
  exact h
theorem KGo.step {w wq X1 W' w1 : World} {mb : Nat} {A : Option Addr} {cp ab sb fb : Nat} {l : List S} {O : List Tr} {f g : Int × Int → Option Value} {M : Nat → Prop} {a b c : Int} {k : Nat} {s : Int → Option Value} (h : KGo w wq mb A cp ab sb fb l O f g M a b c k s) {x y : Int} {ob2 : Obj} {v v1 : Value} {xs : List Int}
    (hM : ∀ q, M q → q < w.heap.size) (hX : Below wq.heap.size wq X1) (hfk : fL f (a, b, c) (k + 1) = upd (fL f (a, b, c) k) (x, y) none) (hm : MapF encE okE W' ab (upd (fL f (a, b, c) k) (x, y) none)) (ho : ∀ q, q ≠ ab → W'.heap[q]? = X1.heap[q]?) (hb : Below ab X1 W')
    (hv : (s x).getD (.slice none 0 0) = v) (hnd : xs.Nodup) (hE : ∀ z ∈ xs, Ef (fL f (a, b, c) k) x z) (hrow : Kd.R (Kd.int .i64) 3 W' 0 M v xs) (hr1 : Kd.R (Kd.int .i64) 3 w1 0 M v1 (xs.filter fun z => !(z == y))) (hg1 : W'.grownBy w1 v.ownBlock) (hat : v1.ownBlock = v.ownBlock)
    (hm2 : MapF (fun x : Int => Value.int .i64 x) W64 (setBlock w1 sb ob2) sb (upd s x (some v1))) :
    KGo w (setBlock w1 sb ob2) mb A cp ab sb fb l O f g M a b c (k + 1) (upd s x (some v1)) := by
  have hz2 : (setBlock w1 sb ob2).heap.size = w1.heap.size := by simp [setBlock]
  have hX1 := h.raw.below hX
  have hY := hX1.apex_set hm ho hb.size
  have hfin := hY.spoke_set (w' := setBlock w1 sb ob2) (E' := Ef (fL f (a, b, c) (k + 1))) hm2 (v := v) (xs1 := xs.filter fun z => !(z == y)) (fun q hq h1 h2 => (other_block h1 ob2).trans (hg1.block q hq h2)) hv.symm (by rw [hz2]; exact hg1.size) (own_move (Kd.own_of_R hr1) (fun q hq => other_block (fun e => by
      subst e
      rw [hat] at hq
      obtain ⟨o', hb', hn'⟩ := map_obj hY.spokes
      obtain ⟨inner, hi⟩ := Kd.R_own hrow
      exact own_not_map hi hb' (fun cs fr => hn' cs _ fr) hq) ob2)) (List.Pairwise.filter _ hnd) (fun z hz => by
      obtain ⟨h1, h2⟩ := List.mem_filter.mp hz
      rw [hfk]
      exact ef_off (hE z h1) (fun e => by rw [e.2] at h2; simp at h2)) (fun z q hzx hq => by rw [hfk]; exact ef_off hq (fun e => hzx e.1)) (.inl hat)
  refine ⟨?_, ?_⟩
  · have hold := hY.old
    have := hfin
    rw [hfk] at this ⊢
    exact { blk := this.blk, pts := Kd.R_mono (ok' := M) (pts_move (w' := setBlock w1 sb ob2) (by
              exact hY.pts) (fun _ _ _ _ _ _ q => q) (fun q hq => by
              obtain ⟨inner, hi⟩ := Kd.R_own hY.pts
              obtain ⟨cells, hc⟩ := own_typed hi q hq
              have q1 : q ≠ sb := fun e => by
                obtain ⟨o', hb', hn'⟩ := map_obj hY.spokes
                rw [e, hb'] at hc
                injection hc with hc
                exact hn' _ _ _ hc
              exact (other_block q1 ob2).trans (hg1.block q (own_lt hi q hq) (fun e => by
                obtain ⟨inner2, hi2⟩ := Kd.R_own hrow
                obtain ⟨cells2, hc2⟩ := own_typed hi2 q e.symm
                rw [hc] at hc2
                injection hc2 with hc2
                injection hc2 with _ hc2
                exact absurd hc2 (by decide))))) (fun _ q => q), apex := this.apex, fixed := this.fixed, spokes := this.spokes, rows := fun z u hz => by
              obtain ⟨ys, r1, r2, r3, r4, r5⟩ := this.rows z u hz
              refine ⟨ys, r1, r2, r3, fun q hq => ?_, r5⟩
              unfold upd at hz
              split at hz
              · injection hz with hz
                subst hz
                exact hr1.1 q hq
              · obtain ⟨ys', r1', -, -, r4', -⟩ := hY.rows z u hz
                exact r4' q hq, ne := this.ne, mine := hY.mine, old := fun q hq => by rw [hz2]; exact Nat.lt_of_lt_of_le (hold q hq) hg1.size }
  · have f1 : Fr M w X1 := h.fr.trans (Fr.of_below hX) (fun _ _ q => q)
    refine ⟨hg1.os.trans (hb.os.trans f1.os), hg1.tape.trans (hb.tape.trans f1.tape), hg1.output.trans (hb.output.trans f1.output), by rw [hz2]; exact Nat.le_trans f1.size (Nat.le_trans hb.size hg1.size), fun q hq hn => ?_⟩
    have hqX : q < X1.heap.size := Nat.lt_of_lt_of_le hq f1.size
    have q1 : q ≠ sb := fun e => hn (by rw [e]; exact hX1.mine.2.2.1)
    have q2 : q ≠ ab := fun e => hn (by rw [e]; exact hX1.mine.2.1)
    rw [other_block q1, hg1.block q (Nat.lt_of_lt_of_le hqX hb.size) (fun e => hn (hrow.1 q e.symm)), ho q q2]
    exact f1.block q hq hn
def KillPost (w : World) (mb : Nat) (l : List S) (O F : List Tr) (M : Nat → Prop) (t : Tr) (e : Ending) (w' : World) : Prop :=
  e = .returned (.int .i64 (killE O t)) ∧ MeshAt w' mb l (killO O t) F M ∧ Fr M w w'
theorem kill_done {w w' : World} {mb : Nat} {A : Option Addr} {cp ab sb fb : Nat} {l : List S} {O F : List Tr} {f g : Int × Int → Option Value} {s s' : Int → Option Value} {M : Nat → Prop} {a b c : Int} (h : MeshIn w mb A cp ab sb fb l O F f g s M)
    (hk : behind O a b = some c) (hr : Raw w' mb A cp ab sb fb l ((O.length : Int) - 1) (fL f (a, b, c) 3) g s' (Ef (fL f (a, b, c) 3)) M) (hfr : Fr M w w') : KillPost w mb l O F M (a, b, c) (.returned (.int .i64 0)) w' := by
  have hh := h.mesh.apx.mp hk
  obtain ⟨m1, m2⟩ := apx_kill h.mesh h.apx hh
  unfold KillPost killE killO
  rw [if_pos hk, if_pos hk]
  have hnd := up_nodup h.mesh.up
  have hlen : (O.filter (· ≠ own (a, b, c))).length + 1 = O.length := by
    have e : O.filter (· ≠ own (a, b, c)) = O.erase (own (a, b, c)) := by
      rw [hnd.erase_eq_filter]
      congr 1
      funext z
      by_cases q : z = own (a, b, c) <;> simp [q]
    have hp := List.length_pos_of_mem hh
    rw [e, List.length_erase_of_mem hh]
    omega
  refine ⟨rfl, ⟨A, cp, ab, sb, fb, fL f (a, b, c) 3, g, s', { toRaw := ?_, apx := m2, fxs := h.fxs, mesh := m1, up2 := h.up2, good := h.good, rng := fun t ht => h.rng t (List.mem_filter.mp ht).1, frng := h.frng }⟩, hfr⟩
  have e : ((O.filter (· ≠ own (a, b, c))).length : Int) = (O.length : Int) - 1 := by omega
  rw [e]
  exact hr
theorem killcl_call (B : Nat) (x y : Int) (W : World) (h : W.cell? ⟨B, 1, none⟩ = some (.int .i64 y)) : Calls Tryz.prog 170 #[.int .i64 x, .pointer (some ⟨B, 0, none⟩)] W fun e w' => e = .returned (.bool (x == y)) ∧ Below W.heap.size W w' := by
  generalize hq : (x == y) = q
  go_enter Tryz.func170, Tryz.ntmps170
  go_wp2
  go_ret
  exact ⟨rfl, Below.refl _ _⟩
end Go.Proofs.YtjiolfpahollkaaGreatDoor.Msh
end
