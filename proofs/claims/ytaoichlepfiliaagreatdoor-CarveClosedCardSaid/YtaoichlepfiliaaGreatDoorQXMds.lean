/- Lemmas of Mds. Conditions stand in each. -/
import Derived.Test.YtaoichlepfiliaaGreatDoorQXMco
import Derived.Test.YtaoichlepfiliaaGreatDoorQXMdk
set_option linter.unusedSimpArgs false
set_option linter.unusedVariables false
section
namespace Go.Proofs.YtaoichlepfiliaaGreatDoor.Msh
open Go.RowKit Go.Sort Go.Proofs.YtaoichlepfiliaaGreatDoor.Adm Go.Proofs.YtaoichlepfiliaaGreatDoorW.PrintWords Go.Proofs.YtaoichlepfiliaaGreatDoorW.PrintLast
abbrev Sl := Option Addr × Nat × Nat
def encSl (x : Sl) : Value := .slice x.1 x.2.1 x.2.2
abbrev kSl : Kd Sl := Kd.scalar encSl (fun _ => rfl)
set_option maxRecDepth 100000 in
set_option maxHeartbeats 4000000 in
theorem idxS_call (B : Nat) (A : Option Addr) (c : Nat) (l : List Sl) (w : World) (hl : kSl.C w A l.length l) (p : Sl → Bool) (hp : ∀ x, x ∈ l → ∀ W, Below w.heap.size w W → Calls Tryz.prog 74 #[encSl x, .pointer (some ⟨B, 0, none⟩)] W fun e w' => e = .returned (.bool (p x)) ∧ Below W.heap.size W w') :
 Calls Tryz.prog 98 #[.slice A l.length c, .func (.func 74) #[] #[.pointer (some ⟨B, 0, none⟩)]] w fun e w' => e = .returned (.int .i64 (idxF p 0 l)) ∧ Below w.heap.size w w' := by
 have hm := hl.2.1
 go_enter Tryz.func98, Tryz.ntmps98
 go_wp2
 go_loopw [8] (fun x wr => ∃ (n : Nat), x = .int .i64 n ∧ n ≤ l.length ∧ Below w.heap.size w wr ∧ Aside0 (idxF p n (l.drop n) = idxF p 0 l)) (fun x _ => l.length - (intOf x).toNat)
 case atStart => exact ⟨0, rfl, Nat.zero_le _, Below.refl _ _, ⟨rfl⟩⟩
 case round =>
  obtain ⟨n, rfl, hn, hB, hi⟩ := hrel
  by_cases hlt : n < l.length
  ·have d1 : decide ((n : Int) < (l.length : Int)) = true := by simp; omega
   have d2 : decide (n < l.length) = true := by simp; omega
   have d3 : decide ((0 : Int) ≤ n) = true := by simp
   obtain ⟨ad, rfl, hx0⟩ := (Kd.reads_of_C (d := ((none, 0, 0) : Sl)) (Kd.C_below hl hB)).at_ n (by omega) (by omega)
   have hr : rdOf ((none, 0, 0) : Sl) l (n : Int) = l[n] := by unfold rdOf; rw [Int.toNat_natCast, getD_at hlt]
   rw [Int.toNat_natCast, hr] at hx0
   replace hi := hi.out
   rw [List.drop_eq_getElem_cons hlt, idxF] at hi
   have hcl := fun W h => hp l[n] (List.getElem_mem hlt) W h
   clear hr
   generalize l[n] = x at *
   unfold encSl at hx0 hcl
   cases hg : p x
   ·simp only [hg] at hcl
    rw [hg, if_neg (by decide)] at hi
    replace hi := Aside0.mk hi
    go_wp2_with (go_at_call 74; (with_reducible refine (hcl _ hB).mono ?_); rintro y w1 ⟨rfl, hb1⟩)
    go_roundw
    case rel => exact ⟨n + 1, by go_num, by omega, hB.trans (hb1.mono hB.size), hi⟩
    case measure => simp [intOf]; omega
   ·simp only [hg] at hcl
    rw [hg, if_pos rfl] at hi
    replace hi := Aside0.mk hi
    go_wp2_with (go_at_call 74; (with_reducible refine (hcl _ hB).mono ?_); rintro y w1 ⟨rfl, hb1⟩)
    go_ret
    rw [← hi.out]
    exact ⟨rfl, hB.trans (hb1.mono hB.size)⟩
  ·have d1 : decide ((n : Int) < (l.length : Int)) = false := by simp; omega
   have d2 : decide (n < l.length) = false := by simp; omega
   replace hi := hi.out
   rw [List.drop_eq_nil_of_le (by omega), idxF] at hi
   replace hi := Aside0.mk hi
   go_wp2
   go_ret
   rw [← hi.out]
   exact ⟨rfl, hB⟩
theorem clearS_run (W : World) (ty : TypeId) (b o n c : Nat) (hn : 0 < n) (hc : ∀ j, j < n → (W.cell? ⟨b, o + j, none⟩).isSome = true) (hf : ∀ j, j < n → W.frozen? ⟨b, o + j, none⟩ = false) :
 (Builtin.clear_ #[47] ty #[.slice (some ⟨b, o, none⟩) n c]).run Tryz.prog W = .ok (.tuple #[]) (W.setCells b o (List.replicate n (encSl ((none, 0, 0) : Sl)))) :=
 Lib.run_clear_slice W _ _ ty (encSl ((none, 0, 0) : Sl)) Tryz.underlying47 Tryz.zeroValue23 rfl rfl b o n c hn hc hf
set_option maxRecDepth 1000000 in
set_option maxHeartbeats 8000000 in
theorem delS_call (B : Nat) {w : World} {base : Nat} {M : Nat → Prop} {v : Value} {l : List Sl} (hR : kSl.R 23 w base M v l) (hn : l.length ≤ 1099511627776) (p : Sl → Bool) (hp : ∀ x, x ∈ l → ∀ W, w.grownBy W v.ownBlock → Calls Tryz.prog 74 #[encSl x, .pointer (some ⟨B, 0, none⟩)] W fun e w' => e = .returned (.bool (p x)) ∧ Below W.heap.size W w') :
 Calls Tryz.prog 73 #[v, .func (.func 74) #[] #[.pointer (some ⟨B, 0, none⟩)]] w fun e w' => ∃ v', e = .returned v' ∧ kSl.R 23 w' base M v' (l.filter fun x => !p x) ∧ w.grownBy w' v.ownBlock ∧ v'.ownBlock = v.ownBlock := by
 obtain ⟨A, c, rfl, hcap, hC⟩ := Kd.R_reads hR
 have hix := idxS_call B A c l w hC p (fun x hx W hb => hp x hx W ⟨hb.os, hb.tape, hb.output, hb.size, fun q hq _ => hb.block q hq⟩)
 rcases idxF_spec (p := p) (z := ((none, 0, 0) : Sl)) l 0 with ⟨h1, h2⟩ | ⟨k, hk, h1, h2, h3⟩
 ·rw [h1] at hix
  have e : (l.filter fun x => !p x) = l := filter_none h2
  rw [e]
  have HR := Aside0.mk hR
  clear hR h1 h2 e hp hC
  go_enter Tryz.func73, Tryz.ntmps73
  go_wp2_with (go_at_call 98; (with_reducible refine hix.mono ?_); rintro y w1 ⟨rfl, hb1⟩)
  go_ret
  exact ⟨_, rfl, Kd.R_below HR.out hb1, ⟨hb1.os, hb1.tape, hb1.output, hb1.size, fun q hq _ => hb1.block q hq⟩, rfl⟩
 ·rw [h1, Nat.zero_add] at hix
  obtain ⟨g, cap, hs, -⟩ := Kd.R_form hR (by omega)
  injection hs with hs1 _ hs2
  subst hs1 hs2
  have d0 : (((k : Nat) : Int) == -1) = false := beq_eq_false_iff_ne.mpr (by omega)
  have HM := Aside0.mk (Dl.start (p := p) hk h2 h3)
  have HD := Aside0.mk (⟨hR, grown_refl _ _⟩ : Dm encSl (fun _ => rfl) 23 base M w w g c l)
  have ik : IntKind.i64.wrap ((k : Int) + 1) = (k : Int) + 1 := wrapN (by omega) (by omega)
  clear hR h1 h2 h3 hC
  go_enter Tryz.func73, Tryz.ntmps73
  go_wp2_with (go_at_call 98; (with_reducible refine hix.mono ?_); rintro y w1 ⟨rfl, hb1⟩)
  clear hix ik
  go_loopw [5, 6] (fun s5 s6 wr => ∃ (kk j : Nat) (zs : List Sl), s5 = .int .i64 kk ∧ s6 = .int .i64 j ∧ j ≤ l.length ∧ Aside0 (Dm encSl (fun _ => rfl) 23 base M w wr g c zs) ∧ Aside0 (Dl p ((none, 0, 0) : Sl) l zs kk j)) (fun _ s6 _ => l.length - (intOf s6).toNat)
  case atStart => exact ⟨k, k + 1, l, rfl, by go_num, hk, ⟨HD.out.below hb1⟩, HM⟩
  case round =>
   clear HM HD hb1
   obtain ⟨kk, j, zs, rfl, rfl, hj, HD, HM⟩ := hrel
   have hlz := HM.out.len
   have hkl := HM.out.lt
   have ij : IntKind.i64.wrap ((j : Int) + 1) = (j : Int) + 1 := wrapN (by omega) (by omega)
   have ikk : IntKind.i64.wrap ((kk : Int) + 1) = (kk : Int) + 1 := wrapN (by omega) (by omega)
   by_cases hlt : j < l.length
   ·have d1 : decide ((j : Int) < (l.length : Int)) = true := by simp; omega
    have d2 : decide (j < l.length) = true := by simp; omega
    have d3 : decide (kk < l.length) = true := by simp; omega
    have d4 : decide ((kk : Int) < (l.length : Int)) = true := by simp; omega
    obtain ⟨x0, -⟩ := HD.out.cell ((none, 0, 0) : Sl) (show j < zs.length by omega)
    rw [HM.out.high j (Nat.le_refl _)] at x0
    have hcl := hp (l.getD j ((none, 0, 0) : Sl)) (by rw [List.getD_eq_getElem?_getD, List.getElem?_eq_getElem (show j < l.length by omega)]; exact List.getElem_mem _) wr HD.out.grn
    have HM1 := HM
    generalize hx : l.getD j ((none, 0, 0) : Sl) = x at *
    have HX := Aside0.mk hx
    clear hx hlz
    unfold encSl at x0 hcl
    cases hg : p x
    ·simp only [hg] at hcl
     have hf1 : Aside0 (∀ w2, Below wr.heap.size wr w2 → w2.frozen? ⟨g, kk, none⟩ = false ∧ ∃ u, w2.cell? ⟨g, kk, none⟩ = some u) := ⟨fun w2 hb => by
      have := (HD.out.below hb).cell ((none, 0, 0) : Sl) (show kk < zs.length by have := HM.out.len; omega)
      exact ⟨this.2, _, this.1⟩⟩
     have HG := Aside0.mk hg
     clear hg
     go_wp2_with (go_at_call 74; (with_reducible refine hcl.mono ?_); rintro y w2 ⟨rfl, hb2⟩; have hff := hf1.out w2 hb2; obtain ⟨ff1, uu, ff2⟩ := hff)
     go_roundw
     case rel =>
      have hkeep := HM.out.keep hlt (by rw [HX.out]; exact HG.out)
      rw [HX.out] at hkeep
      exact ⟨kk + 1, j + 1, _, by go_num, by go_num, by omega, ⟨(HD.out.below hb2).set kk _⟩, ⟨hkeep⟩⟩
     case measure => simp [intOf]; omega
    ·simp only [hg] at hcl
     have HG := Aside0.mk hg
     clear hg
     go_wp2_with (go_at_call 74; (with_reducible refine hcl.mono ?_); rintro y w2 ⟨rfl, hb2⟩)
     go_roundw
     case rel => exact ⟨kk, j + 1, zs, rfl, by go_num, by omega, ⟨HD.out.below hb2⟩, ⟨HM.out.skip hlt (by rw [HX.out]; exact HG.out)⟩⟩
     case measure => simp [intOf]; omega
   ·obtain rfl : j = l.length := by omega
    have d1 : decide ((l.length : Int) < (l.length : Int)) = false := by simp
    have hcl : ∀ ty, (Builtin.clear_ #[47] ty #[.slice (some ⟨g, kk, none⟩) (l.length - kk) (c - kk)]).run Tryz.prog wr = .ok (.tuple #[]) (wr.setCells g kk (List.replicate (l.length - kk) (encSl ((none, 0, 0) : Sl)))) := fun ty => clearS_run wr ty g kk _ _ (by omega) (fun t ht => by rw [(HD.out.cell ((none, 0, 0) : Sl) (show kk + t < zs.length by omega)).1]; rfl) (fun t ht => (HD.out.cell ((none, 0, 0) : Sl) (show kk + t < zs.length by omega)).2)
    have d3 : decide (kk ≤ l.length) = true := by simp; omega
    have d4 : decide (kk ≤ c) = true := by simp; omega
    have d5 : decide ((kk : Int) ≤ (l.length : Int)) = true := by simp; omega
    have d6 : decide ((kk : Int) ≤ (c : Int)) = true := by simp; omega
    have hu := Tryz.underlying47
    go_wp2
    go_ret
    have hcut := HD.out.cut ((none, 0, 0) : Sl) (kk := kk) (n := l.length - kk) (by omega)
    rw [HM.out.done] at hcut
    exact ⟨_, rfl, hcut.1, hcut.2, rfl⟩
end Go.Proofs.YtaoichlepfiliaaGreatDoor.Msh
end
section
namespace Go.Proofs.YtaoichlepfiliaaGreatDoor.Msh
open Go.RowKit Go.Sort Go.ChangeMaps Go.MapKept Go.Proofs.YtaoichlepfiliaaGreatDoor.Mp Go.Proofs.YtaoichlepfiliaaGreatDoor.Adm Go.Proofs.YtaoichlepfiliaaGreatDoor.Kfl Go.Proofs.YtaoichlepfiliaaGreatDoorW.PrintWords Go.Proofs.YtaoichlepfiliaaGreatDoorW.PrintLast
theorem flatSl : Flat kSl (fun x => [encSl x]) := ⟨fun _ => rfl, fun x v hv => by rw [List.mem_singleton.mp hv]; rfl, fun _ _ _ _ _ => Iff.rfl, fun _ _ _ => Iff.rfl⟩
theorem infoSl : (Tryz.prog.info? 23).map (fun i => (i.zero, i.size, i.bytes)) = some (some (.slice none 0 0), 1, 24) := by kernel_rfl
section
variable {w W W1 : World} {base : Nat} {v v1 : Value} {p : List Tr} {hs : List Sl} {L : List (List Tr)}
theorem tr_row : kTr.R 53 W base anyB v p ↔ LRow true W base 53 3 v p.length (p.flatMap cT) :=
 ⟨fun h => LRow.of_own (flatT.row.mp h).2, fun h => flatT.row.mpr ⟨fun _ _ => trivial, h.own⟩⟩
theorem sl_row : kSl.R 23 W base anyB v hs ↔ LRow true W base 23 1 v hs.length (hs.flatMap fun x => [encSl x]) :=
 ⟨fun h => LRow.of_own (flatSl.row.mp h).2, fun h => flatSl.row.mpr ⟨fun _ _ => trivial, h.own⟩⟩
theorem LRow.rebase {t : Bool} {b b' e size n : Nat} {xs : List Value} (h : LRow t W b e size v n xs) (hb : b' ≤ b) : LRow t W b' e size v n xs := by
 obtain ⟨h1, h2⟩ := h
 refine ⟨h1, ?_⟩
 rcases h2 with h2 | ⟨g, cap, cur, a1, a2, r⟩
 ·exact .inl h2
 ·exact .inr ⟨g, cap, cur, a1, Nat.le_trans hb a2, r⟩
structure Pr (W : World) (base : Nat) (v : Value) (hs : List Sl) (L : List (List Tr)) : Prop where
 row : kSl.R 23 W base anyB v hs
 len : hs.length = L.length
 at_ : ∀ (i : Nat) (x : Sl) (p : List Tr), hs[i]? = some x → L[i]? = some p → kTr.R 53 W base anyB (encSl x) p
theorem Pr.nil (W : World) (base : Nat) : Pr W base (.slice none 0 0) [] [] := ⟨Kd.R_nil _ _ _ _ _, rfl, fun i x p h => by simp at h⟩
theorem LRow.not {t : Bool} {e size n : Nat} {xs : List Value} (h : LRow t W base e size v n xs) {b : Nat} {o : Obj} (hb : W.heap[b]? = some o) (ho : ∀ cs, o ≠ .cells cs e (0, 0)) : v.ownBlock ≠ some b := fun q => by
 obtain ⟨-, -, cells, hc⟩ := h.lt b q
 rw [hb] at hc
 injection hc with hc
 exact ho _ hc
theorem Pr.keep (h : Pr W base v hs L) (hm : ∀ k, k < W.heap.size → (∃ cs e, W.heap[k]? = some (.cells cs e (0, 0))) → W1.heap[k]? = W.heap[k]?) : Pr W1 base v hs L := by
 refine ⟨sl_row.mpr ((sl_row.mp h.row).move fun k hk => ?_), h.len, fun i x p hx hp => tr_row.mpr ((tr_row.mp (h.at_ i x p hx hp)).move fun k hk => ?_)⟩
 ·obtain ⟨-, q2, cs, q3⟩ := (sl_row.mp h.row).lt k hk
  exact hm k q2 ⟨cs, _, q3⟩
 ·obtain ⟨-, q2, cs, q3⟩ := (tr_row.mp (h.at_ i x p hx hp)).lt k hk
  exact hm k q2 ⟨cs, _, q3⟩
theorem Pr.below (h : Pr W base v hs L) (hb : Below W.heap.size W W1) : Pr W1 base v hs L := h.keep fun k hk _ => hb.block k hk
theorem Pr.fr {sb : Nat} {gs : Tr → Option Value} (h : Pr W base v hs L) (hm : MapF encT okT W sb gs) (hf : Fr (· = sb) W W1) : Pr W1 base v hs L := h.keep fun k hk ⟨cs, e, hc⟩ => hf.block k hk fun q => by
 obtain ⟨es, clock, hb, -⟩ := hm
 rw [← q, hc] at hb
 cases hb
theorem tr_fr {sb : Nat} {gs : Tr → Option Value} (h : kTr.R 53 W base anyB v p) (hm : MapF encT okT W sb gs) (hf : Fr (· = sb) W W1) : kTr.R 53 W1 base anyB v p := by
 refine tr_row.mpr ((tr_row.mp h).move fun k hk => ?_)
 obtain ⟨-, q2, cs, hc⟩ := (tr_row.mp h).lt k hk
 refine hf.block k q2 fun q => ?_
 obtain ⟨es, clock, hb, -⟩ := hm
 rw [← q, hc] at hb
 cases hb
theorem tr_grow (h : kTr.R 53 W base anyB v p) {v0 : Value} (h0 : kSl.R 23 W base anyB v0 hs) (hg : W.grownBy W1 v0.ownBlock) : kTr.R 53 W1 base anyB v p := by
 refine tr_row.mpr ((tr_row.mp h).move fun k hk => ?_)
 obtain ⟨-, q2, cs, hc⟩ := (tr_row.mp h).lt k hk
 exact hg.block k q2 fun e => (sl_row.mp h0).not hc (by intro cs' q; injection q with _ q; revert q; decide) e.symm
theorem Pr.add (h : Pr W base v hs L) {x : Sl} (hp : kTr.R 53 W base anyB (encSl x) p) (hr : kSl.R 23 W1 base anyB v1 (hs ++ [x])) (hg : W.grownBy W1 v.ownBlock) : Pr W1 base v1 (hs ++ [x]) (L ++ [p]) := by
 refine ⟨hr, by simp [h.len], fun i y q hy hq => ?_⟩
 rcases Nat.lt_trichotomy i hs.length with k | k | k
 ·rw [List.getElem?_append_left k] at hy
  rw [List.getElem?_append_left (by rw [← h.len]; exact k)] at hq
  exact tr_grow (h.at_ i y q hy hq) h.row hg
 ·subst k
  rw [List.getElem?_append_right (Nat.le_refl _), Nat.sub_self] at hy
  rw [h.len, List.getElem?_append_right (Nat.le_refl _), Nat.sub_self] at hq
  injection hy with hy
  injection hq with hq
  subst hy hq
  exact tr_grow hp h.row hg
 ·rw [List.getElem?_eq_none (by simp; omega)] at hy
  cases hy
end
theorem till_len {fx : Int → Int → Prop} {O : List Tr} {k : Nat} {L : List (List Tr)} {seen : Tr → Prop} (h : Till fx O k L seen) : L.length ≤ O.length := by
 have h1 : (L.map fun p => p.head?.getD (0, 0, 0)).Nodup := h.heads.imp fun {a b} hab e => by rw [e] at hab; exact lt3_irrefl _ hab
 have := nodup_size _ O h1 fun t ht => by
  obtain ⟨p, hp, rfl⟩ := List.mem_map.mp ht
  exact List.mem_of_mem_take (h.from_ p hp)
 simpa using this
theorem till_clean {fx : Int → Int → Prop} {O : List Tr} {k : Nat} {L : List (List Tr)} {seen : Tr → Prop} (hf : ∀ a b, fx a b ↔ fx b a) (h : Till fx O k L seen) (hk : k < O.length) (hs : ¬ seen O[k]) : ∀ t, Conn fx O O[k] t → ¬ seen t := fun t ht q => by
 have hO : O[k] ∈ O := List.getElem_mem _
 obtain ⟨r, hr, hr2⟩ := (h.seen_iff t (ht.mem hO)).mp q
 have h1 := ((h.part r hr t hr2).2 O[k]).mpr (ht.symm hf hO)
 exact hs ((h.seen_iff _ hO).mpr ⟨r, hr, h1⟩)
theorem at_cell {xs : List Tr} {k : Nat} {x : Tr} (h : xs[k]? = some x) {j : Nat} (hj : j < 3) : (xs.flatMap cT)[k * 3 + j]? = (cT x)[j]? := by
 have h0 := flat_take (enc := cT) (k := 3) (fun _ => rfl) xs k x h
 have h1 : (((xs.flatMap cT).drop (k * 3)).take 3)[j]? = (cT x)[j]? := by rw [h0]
 rw [List.getElem?_take_of_lt hj, List.getElem?_drop] at h1
 exact h1
structure PSt (w : World) (mb : Nat) (l : List S) (O F : List Tr) (M : Nat → Prop) (vO : Value) (gs : Tr → Option Value) (v : Value) (hs : List Sl) (L : List (List Tr)) (wr : World) : Prop where
 mesh : MeshAt wr mb l O F M
 map : MapF encT okT wr w.heap.size gs
 orow : kTr.R 53 wr w.heap.size anyB vO O
 prs : Pr wr w.heap.size v hs L
 bel : Below w.heap.size w wr
section
variable {w W W1 : World} {mb : Nat} {l : List S} {O F : List Tr} {M : Nat → Prop} {vO v v1 : Value} {gs gs1 : Tr → Option Value} {hs : List Sl} {L : List (List Tr)} {p : List Tr}
theorem PSt.below (h : PSt w mb l O F M vO gs v hs L W) (hb : Below W.heap.size W W1) : PSt w mb l O F M vO gs v hs L W1 :=
 ⟨h.mesh.below hb, h.map.below hb, Kd.R_below h.orow hb, h.prs.below hb, h.bel.trans (hb.mono h.bel.size)⟩
theorem PSt.turn (h : PSt w mb l O F M vO gs v hs L W) (hM : ∀ k, M k → k < w.heap.size) (hm : MapF encT okT W1 w.heap.size gs1) (hf : Fr (· = w.heap.size) W W1) : PSt w mb l O F M vO gs1 v hs L W1 :=
 ⟨h.mesh.fr hf fun k hk e => by have := hM k hk; omega, hm, tr_fr h.orow h.map hf, h.prs.fr h.map hf, ⟨hf.os.trans h.bel.os, hf.tape.trans h.bel.tape, hf.output.trans h.bel.output, Nat.le_trans h.bel.size hf.size, fun k hk => (hf.block k (Nat.lt_of_lt_of_le hk h.bel.size) (by omega)).trans (h.bel.block k hk)⟩⟩
theorem PSt.add (h : PSt w mb l O F M vO gs v hs L W) (hM : ∀ k, M k → k < w.heap.size) {x : Sl} (hp : kTr.R 53 W w.heap.size anyB (encSl x) p) (hr : kSl.R 23 W1 w.heap.size anyB v1 (hs ++ [x])) (hg : W.grownBy W1 v.ownBlock) : PSt w mb l O F M vO gs v1 (hs ++ [x]) (L ++ [p]) W1 := by
 have hB : Below w.heap.size W W1 := grown_below hg (fun q hq => Kd.R_base h.prs.row q hq) h.bel.size
 refine ⟨h.mesh.move hg.size fun k hk => hB.block k (hM k hk), ?_, tr_grow h.orow h.prs.row hg, h.prs.add hp hr hg, h.bel.trans hB⟩
 obtain ⟨es, clock, hb, hF⟩ := h.map
 exact ⟨es, clock, row_keeps h.prs.row hg hb (by intros; simp), hF⟩
set_option maxRecDepth 100000 in
set_option maxHeartbeats 16000000 in
theorem parts_call (h : MeshAt w mb l O F M) : Calls Tryz.prog 20 #[ptr mb] w fun e w' => ∃ v hs L, e = .returned (.tuple #[v, .int .i64 0]) ∧ Pr w' w.heap.size v hs L ∧ IsParts (Fixd F) O L ∧ Below w.heap.size w w' := by
 have hmm : ∀ t w, (Instr.makeMap t none).run Tryz.prog w = .ok (.map (some w.heap.size)) (w.alloc (.map #[] 0)) := fun _ _ => rfl
 have HK := Aside0.mk (And.intro (mesh_mesh h).1 (And.intro (mesh_mesh h).2 (And.intro (mesh_len h) h.old)))
 have hB0 : Below w.heap.size w (w.alloc (.map #[] 0)) := below_alloc (Below.refl _ _) _
 have htr := tris_call (h.below hB0)
 have HM := Aside0.mk (And.intro (h.below hB0) (MapF.made (enc := encT) (ok := okT) w))
 have HB0 := Aside0.mk hB0
 clear h hB0
 go_enter Tryz.func20, Tryz.ntmps20
 go_wp2_with (go_at_call 16; (with_reducible refine htr.mono ?_); rintro u_ w1 ⟨vO, rfl, hR1, hB1⟩; obtain ⟨AO, cO, hvO⟩ := (tr_row.mp hR1).any; subst hvO)
 have HS : Aside0 (PSt w mb l O F M (.slice AO O.length cO) (fun _ => none) (.slice none 0 0) [] [] w1) := ⟨by
  refine ⟨HM.out.1.below hB1, HM.out.2.below hB1, ?_, Pr.nil _ _, HB0.out.trans (hB1.mono HB0.out.size)⟩
  exact tr_row.mpr ((tr_row.mp hR1).rebase (by simp))⟩
 have HT : Aside0 (Till (Fixd F) O 0 [] (isIn fun _ => none) ∧ ∀ (t : Tr) (v : Value), (fun _ : Tr => (none : Option Value)) t = some v → v = .int .i64 1) := ⟨Till.begin fun t q => by simp [isIn] at q, fun t v q => by cases q⟩
 clear hR1 hB1 HM HB0 htr hmm
 go_loopw [14, 4] (fun v14 v4 wr => ∃ (k : Nat) (hs : List Sl) (L : List (List Tr)) (gs : Tr → Option Value), v14 = .int .i64 k ∧ k ≤ O.length ∧ Aside0 (PSt w mb l O F M (.slice AO O.length cO) gs v4 hs L wr) ∧ Aside0 (Till (Fixd F) O k L (isIn gs) ∧ ∀ t v, gs t = some v → v = .int .i64 1)) (fun v14 _ _ => O.length - (intOf v14).toNat)
 case atStart => exact ⟨0, [], [], _, rfl, by omega, HS, HT⟩
 case round =>
  clear HS HT
  obtain ⟨k, hs, L, gs, rfl, hk, HP, HT⟩ := hrel
  have hbig := HK.out.2.2.1
  by_cases hlt : k < O.length
  ·have d1 : decide (k < O.length) = true := decide_eq_true hlt
   have d2 : ((k < O.length) = True) := by simp; omega
   have d3 : decide (((k : Nat) : Int) < ((O.length : Nat) : Int)) = true := by simp; omega
   have ik : IntKind.i64.wrap ((k : Int) + 1) = (k : Int) + 1 := wrapN (by omega) (by omega)
   have hOk : O[k]? = some O[k] := List.getElem?_eq_getElem hlt
   obtain ⟨g, cap, hv, hcp⟩ := (tr_row.mp HP.out.orow).shape (by omega)
   injection hv with hv1 _ hv2
   subst hv1 hv2
   have hc := fun j u (hu : (cT O[k])[j]? = some u) (hj : j < 3) => (tr_row.mp HP.out.orow).cell (j := k * 3 + j) ((at_cell hOk hj).trans hu)
   have HTL := Aside0.mk (fun (hs' : isIn gs O[k]) => HT.out.1.skip hlt hs')
   have HTC := Aside0.mk (fun (hs' : ¬ isIn gs O[k]) => till_clean (fixd_comm F) HT.out.1 hlt hs')
   have HTA := Aside0.mk (fun (hs' : ¬ isIn gs O[k]) (p : List Tr) (gs' : Tr → Option Value) => HT.out.1.add (seen' := isIn gs') (p := p) HK.out.1 (fixd_comm F) hlt hs')
   have HOM := Aside0.mk (List.getElem_mem hlt : O[k] ∈ O)
   generalize O[k] = x at *
   have z0 := (hc 0 _ rfl (by omega) : wr.cell? _ = some (Value.int .i64 x.1))
   have z1 := (hc 1 _ rfl (by omega) : wr.cell? _ = some (Value.int .i64 x.2.1))
   have z2 := (hc 2 _ rfl (by omega) : wr.cell? _ = some (Value.int .i64 x.2.2))
   simp only [Nat.add_zero] at z0
   have HH := Aside0.mk hcp
   clear hc hOk hcp
   have HP1 : Aside0 (PSt w mb l O F M (.slice (some ⟨g, 0, none⟩) O.length cO) gs u4 hs L (wr.alloc (.cells #[.int .i64 x.1, .int .i64 x.2.1, .int .i64 x.2.2] 53))) := ⟨HP.out.below (below_alloc (Below.refl _ _) _)⟩
   have hlk : (Instr.lookup 50 (.map (some w.heap.size)) (.agg #[.int .i64 x.1, .int .i64 x.2.1, .int .i64 x.2.2]) false).run Tryz.prog (wr.alloc (.cells #[.int .i64 x.1, .int .i64 x.2.1, .int .i64 x.2.2] 53)) = .ok ((gs x).getD (.int .i64 0)) (wr.alloc (.cells #[.int .i64 x.1, .int .i64 x.2.1, .int .i64 x.2.2] 53)) :=
    HP1.out.map.lookup kT Tryz.underlying50 (zeroI _) (x := x) (mesh_rng HP.out.mesh HOM.out) false
   cases hgx : gs x with
   | some v =>
    have hv1 := HT.out.2 x v hgx
    rw [hgx] at hlk
    subst hv1
    simp only [Option.getD_some] at hlk
    have HN := Aside0.mk (And.intro (HTL.out (by unfold isIn; rw [hgx]; rfl)) HT.out.2)
    clear hgx HTL HTC HTA HT
    go_wp2
    go_roundw
    case rel => exact ⟨k + 1, _, _, _, by simp, by omega, HP1, HN⟩
    case measure => simp [intOf]; omega
   | none =>
    rw [hgx] at hlk
    simp only [Option.getD_none] at hlk
    have hni : ¬ isIn gs x := by unfold isIn; rw [hgx]; simp
    have HTA2 := Aside0.mk (HTA.out hni)
    have hpt := part_call HP1.out.mesh HP1.out.map HT.out.2 (fun q => by have := HK.out.2.2.2 _ q; omega) HOM.out (HTC.out hni)
    have hz := till_len HT.out.1
    have hz2 := HP.out.prs.len
    have HZ : Aside0 ((hs.length + 1) * 24 ≤ 140737488355328) := ⟨by omega⟩
    have HONE := Aside0.mk HT.out.2
    unfold encT at hpt
    clear hgx HTL HTC HTA HT hni hz hz2
    go_wp2_with (first
     | (go_at_call 52; (with_reducible refine hpt.mono ?_); rintro u_ w5 ⟨v5, p5, gs5, rfl, hR5, hU5, hC5, hM5, hO5, hI5, hF5⟩; obtain ⟨A5, c5, hv5⟩ := (tr_row.mp hR5).any; subst hv5; have HP5 := HP1.out.turn HK.out.2.2.2 hM5 hF5; have hrow5 := HP5.prs.row; have hle5 := HP5.bel.size)
     | (refine wp_add1 flatSl rfl (.tmp 22) (.tmp 27) 47 23 (.slice none 0 0) 24 rfl Tryz.underlying47 infoSl rfl (by decide) (by decide) ((A5, p5.length, c5) : Sl) rfl (by simp [Act.eval]) rfl hrow5 hle5 HZ.out ?_; intro v6 w6 hr6 hg6))
    have HP6 := Aside0.mk (HP5.add HK.out.2.2.2 (x := (A5, p5.length, c5)) (p := p5) (tr_row.mpr ((tr_row.mp hR5).rebase (by have := HP1.out.bel.size; omega))) hr6 hg6)
    have HN := Aside0.mk (And.intro (HTA2.out p5 gs5 hU5 hC5 hI5) hO5)
    go_roundw
    case rel => exact ⟨k + 1, _, _, _, by simp, by omega, HP6, HN⟩
    case measure => simp [intOf]; omega
  ·have e : k = O.length := by omega
   subst e
   have hv := HP.out.prs.row
   obtain ⟨A4, c4, hv4⟩ := (sl_row.mp hv).any
   clear hv
   have HN := Aside0.mk HT.out.1.parts
   clear HT
   go_wp2
   go_ret2
   exact ⟨_, hs, L, rfl, HP.out.prs, HN.out, HP.out.bel⟩
end
end Go.Proofs.YtaoichlepfiliaaGreatDoor.Msh
end
