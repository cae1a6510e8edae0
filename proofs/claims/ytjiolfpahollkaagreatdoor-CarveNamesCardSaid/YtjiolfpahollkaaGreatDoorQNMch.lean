/- What the proof needs of Mch: only what is used is left (wip/tools/prune.py). Conditions stand in each sentence. -/
import Derived.Test.YtjiolfpahollkaaGreatDoorQNAdm
section
set_option linter.unusedVariables false
set_option linter.unusedSimpArgs false
namespace Go.Proofs.YtjiolfpahollkaaGreatDoor.Adm
end Go.Proofs.YtjiolfpahollkaaGreatDoor.Adm
namespace Go.Proofs.YtjiolfpahollkaaGreatDoor.E
end Go.Proofs.YtjiolfpahollkaaGreatDoor.E
namespace Go.Proofs.YtjiolfpahollkaaGreatDoor.Mp
end Go.Proofs.YtjiolfpahollkaaGreatDoor.Mp
namespace Go.Proofs.YtjiolfpahollkaaGreatDoor.R
end Go.Proofs.YtjiolfpahollkaaGreatDoor.R
namespace Go.Proofs.YtjiolfpahollkaaGreatDoorW.PrintLast
end Go.Proofs.YtjiolfpahollkaaGreatDoorW.PrintLast
namespace Go.Proofs.YtjiolfpahollkaaGreatDoorW.PrintMore
end Go.Proofs.YtjiolfpahollkaaGreatDoorW.PrintMore
namespace Go.Proofs.YtjiolfpahollkaaGreatDoorW.PrintWords
end Go.Proofs.YtjiolfpahollkaaGreatDoorW.PrintWords
namespace Go.Proofs.YtjiolfpahollkaaGreatDoor.Msh
open Go.RowKit Go.Proofs.YtjiolfpahollkaaGreatDoor.Mp Go.Proofs.YtjiolfpahollkaaGreatDoor.R Go.Proofs.YtjiolfpahollkaaGreatDoor.E Go.Proofs.YtjiolfpahollkaaGreatDoorW.PrintWords Go.Proofs.YtjiolfpahollkaaGreatDoorW.PrintLast Go.Proofs.YtjiolfpahollkaaGreatDoorW.PrintMore
open Go.Proofs.YtjiolfpahollkaaGreatDoor.Adm
theorem own_not_map {w : World} {base : Nat} {e : TypeId} {size n b : Nat} {v : Value} {xs : List Value} (h : w.ownsRow base e size v n xs) {o : Obj} (hb : w.heap[b]? = some o) (ho : ∀ cs fr, o ≠ .cells cs e fr) : v.ownBlock ≠ some b := by
  intro q
  obtain ⟨cells, hc⟩ := own_typed h b q
  rw [hb] at hc
  injection hc with hc
  exact ho _ _ hc
theorem map_obj {α : Type} {enc : α → Value} {ok : α → Prop} {w : World} {b : Nat} {f : α → Option Value} (h : MapF enc ok w b f) : ∃ o, w.heap[b]? = some o ∧ ∀ cs e fr, o ≠ .cells cs e fr := by
  obtain ⟨es, clock, hb, -⟩ := h
  exact ⟨_, hb, by intros; simp⟩
section
variable {w w' : World} {mb : Nat} {A : Option Addr} {c ab sb fb : Nat} {l : List S} {cnt : Int} {f g f' g' : Int × Int → Option Value} {s s' : Int → Option Value} {E E' : Int → Int → Prop} {M : Nat → Prop}
theorem Raw.row_ne (h : Raw w mb A c ab sb fb l cnt f g s E M) {b : Nat} {o : Obj} (hb : w.heap[b]? = some o) (ho : ∀ cs e fr, o ≠ .cells cs e fr) : (∀ x v, s x = some v → v.ownBlock ≠ some b) ∧ (Value.slice A l.length c).ownBlock ≠ some b := by
  refine ⟨fun x v hx => ?_, ?_⟩
  · obtain ⟨xs, h1, -⟩ := h.rows x v hx
    exact own_not_map h1 hb (fun cs fr => ho cs _ fr)
  · obtain ⟨inner, h1⟩ := Kd.R_own h.pts
    exact own_not_map h1 hb (fun cs fr => ho cs _ fr)
theorem pts_move {d : Kd S} {e base : Nat} {v : Value} (h : d.R e w base M v l) (hd : ∀ w base ok ok' x cs, d.M w base ok x cs → d.M w' base ok' x cs) (hm : ∀ k, v.ownBlock = some k → w'.heap[k]? = w.heap[k]?) : d.R e w' base M v l := by
  obtain ⟨h0, inner, h1, h2⟩ := h
  exact ⟨h0, inner, own_move h1 hm, h2.imp_ (fun _ _ q => hd _ _ _ _ _ _ q)⟩
theorem Raw.apex_set (h : Raw w mb A c ab sb fb l cnt f g s E M) (hm : MapF encE okE w' ab f') (ho : ∀ k, k ≠ ab → w'.heap[k]? = w.heap[k]?) (hs : w.heap.size ≤ w'.heap.size) : Raw w' mb A c ab sb fb l cnt f' g s E M := by
  obtain ⟨o, hb, hn⟩ := map_obj h.apex
  obtain ⟨q1, q2⟩ := h.row_ne hb hn
  refine ⟨(ho mb (fun e => ?_)).trans h.blk, pts_move h.pts (fun _ _ _ _ _ _ q => q) (fun k hk => ho k (fun e => q2 (by rw [hk, e]))), hm, h.fixed.move (ho fb (fun e => h.ne.2.1 e.symm)), h.spokes.move (ho sb (fun e => h.ne.1 e.symm)), fun x v hx => ?_, h.ne, h.mine, fun k hk => Nat.lt_of_lt_of_le (h.old k hk) hs⟩
  · have := h.blk
    rw [e, hb] at this
    injection this with this
    exact hn _ _ _ this
  · obtain ⟨xs, h1, h2, h3, h4, h5⟩ := h.rows x v hx
    exact ⟨xs, own_move h1 (fun k hk => ho k (fun e => q1 x v hx (by rw [hk, e]))), h2, h3, h4, h5⟩
theorem Raw.fixed_set (h : Raw w mb A c ab sb fb l cnt f g s E M) (hm : MapF encE okE w' fb g') (ho : ∀ k, k ≠ fb → w'.heap[k]? = w.heap[k]?) (hs : w.heap.size ≤ w'.heap.size) : Raw w' mb A c ab sb fb l cnt f g' s E M := by
  obtain ⟨o, hb, hn⟩ := map_obj h.fixed
  obtain ⟨q1, q2⟩ := h.row_ne hb hn
  refine ⟨(ho mb (fun e => ?_)).trans h.blk, pts_move h.pts (fun _ _ _ _ _ _ q => q) (fun k hk => ho k (fun e => q2 (by rw [hk, e]))), h.apex.move (ho ab h.ne.2.1), hm, h.spokes.move (ho sb h.ne.2.2), fun x v hx => ?_, h.ne, h.mine, fun k hk => Nat.lt_of_lt_of_le (h.old k hk) hs⟩
  · have := h.blk
    rw [e, hb] at this
    injection this with this
    exact hn _ _ _ this
  · obtain ⟨xs, h1, h2, h3, h4, h5⟩ := h.rows x v hx
    exact ⟨xs, own_move h1 (fun k hk => ho k (fun e => q1 x v hx (by rw [hk, e]))), h2, h3, h4, h5⟩
theorem Raw.count_set (h : Raw w mb A c ab sb fb l cnt f g s E M) (n : Int) : Raw (w.setCell ⟨mb, 3, none⟩ (.int .i64 n)) mb A c ab sb fb l n f g s E M := by
  have ho : ∀ k, k ≠ mb → (w.setCell ⟨mb, 3, none⟩ (.int .i64 n)).heap[k]? = w.heap[k]? := fun k hk => Below.heap_setCell _ _ _ _ hk
  have hne : ∀ {α : Type} {enc : α → Value} {ok : α → Prop} {b : Nat} {f : α → Option Value}, MapF enc ok w b f → b ≠ mb := fun q e => by
    obtain ⟨o, hb, hn⟩ := map_obj q
    rw [e, h.blk] at hb
    injection hb with hb
    exact hn _ _ _ hb.symm
  have hty : ∀ {e : TypeId} {size n : Nat} {v : Value} {xs : List Value}, e ≠ 119 → w.ownsRow 0 e size v n xs → ∀ k, v.ownBlock = some k → k ≠ mb := fun he hr k hk q => own_not_map hr h.blk (fun cs fr e => by injection e with _ e; exact he e.symm) (by rw [hk, q])
  refine ⟨?_, pts_move h.pts (fun _ _ _ _ _ _ q => q) (fun k hk => ?_), h.apex.move (ho _ (hne h.apex)), h.fixed.move (ho _ (hne h.fixed)), h.spokes.move (ho _ (hne h.spokes)), fun x v hx => ?_, h.ne, h.mine, fun k hk => by simpa using h.old k hk⟩
  · rw [blk_set h.blk]; rfl
  · obtain ⟨inner, h1⟩ := Kd.R_own h.pts
    exact ho k (hty (by decide) h1 k hk)
  · obtain ⟨xs, h1, h2, h3, h4, h5⟩ := h.rows x v hx
    exact ⟨xs, own_move h1 (fun k hk => ho k (hty (by decide) h1 k hk)), h2, h3, h4, h5⟩
theorem Raw.spoke_set (h : Raw w mb A c ab sb fb l cnt f g s E M) {x : Int} {v v1 : Value} {xs1 : List Int} (hm : MapF (fun x : Int => Value.int .i64 x) W64 w' sb (upd s x (some v1)))
    (ho : ∀ k, k < w.heap.size → k ≠ sb → some k ≠ v.ownBlock → w'.heap[k]? = w.heap[k]?) (hv : v = (s x).getD (.slice none 0 0)) (hs : w.heap.size ≤ w'.heap.size)
    (hr : w'.ownsRow 0 3 1 v1 xs1.length (encs (Value.int .i64) xs1)) (hn : xs1.Nodup) (hE : ∀ y ∈ xs1, E' x y) (hEE : ∀ z y, z ≠ x → E z y → E' z y) (h1 : v1.ownBlock = v.ownBlock ∨ ∀ k, v1.ownBlock = some k → w.heap.size ≤ k ∧ k < w'.heap.size) :
    Raw w' mb A c ab sb fb l cnt f g (upd s x (some v1)) E' (fun k => M k ∨ w.heap.size ≤ k ∧ k < w'.heap.size) := by
  obtain ⟨o, hb, hne⟩ := map_obj h.spokes
  obtain ⟨q1, q2⟩ := h.row_ne hb hne
  have hvb : ∀ k, v.ownBlock = some k → M k ∧ ∃ cells, w.heap[k]? = some (.cells cells 3 (0, 0)) := fun k hk => by
    cases e : s x with
    | none => rw [hv, e] at hk; simp [Value.ownBlock] at hk
    | some u =>
      rw [hv, e] at hk
      obtain ⟨xs, r1, -, -, r4, -⟩ := h.rows x u e
      exact ⟨r4 k hk, own_typed r1 k hk⟩
  have other : ∀ k, k < w.heap.size → k ≠ sb → (∀ cells, w.heap[k]? ≠ some (.cells cells 3 (0, 0))) → w'.heap[k]? = w.heap[k]? := fun k hk h0 hc => ho k hk h0 (fun q => by
    obtain ⟨-, cells, hcc⟩ := hvb k q.symm
    exact hc cells hcc)
  have hmap : ∀ {α : Type} {enc : α → Value} {ok : α → Prop} {b : Nat} {f : α → Option Value}, MapF enc ok w b f → b ≠ sb → w'.heap[b]? = w.heap[b]? := fun q e => by
    obtain ⟨o', hb', hn'⟩ := map_obj q
    exact other _ (blk_lt hb') e (fun cells hc => by rw [hb'] at hc; injection hc with hc; exact hn' _ _ _ hc)
  refine ⟨?_, pts_move h.pts (fun _ _ _ _ _ _ q => q) (fun k hk => ?_) |> fun q => Kd.R_mono q (fun k hk => .inl hk), h.apex.move (hmap h.apex h.ne.1), h.fixed.move (hmap h.fixed (fun e => h.ne.2.2 e.symm)), hm, fun z u hz => ?_, h.ne, ⟨.inl h.mine.1, .inl h.mine.2.1, .inl h.mine.2.2.1, .inl h.mine.2.2.2⟩, fun k hk => ?_⟩
  · refine (other mb (blk_lt h.blk) (fun e => ?_) (fun cells hc => ?_)).trans h.blk
    · have := h.blk
      rw [e, hb] at this
      injection this with this
      exact hne _ _ _ this
    · rw [h.blk] at hc
      injection hc with hc
      injection hc with _ hc
      exact absurd hc (by decide)
  · obtain ⟨inner, h1⟩ := Kd.R_own h.pts
    obtain ⟨cells, hc⟩ := own_typed h1 k hk
    exact other k (own_lt h1 k hk) (fun e => q2 (by rw [hk, e])) (fun cells' hc' => by rw [hc] at hc'; injection hc' with hc'; injection hc' with _ hc'; exact absurd hc' (by decide))
  · unfold upd at hz
    split at hz
    · rename_i e
      subst e
      injection hz with hz
      subst hz
      refine ⟨xs1, hr, hn, hE, fun k hk => ?_, fun y u hy hyx k hk hk' => ?_⟩
      · rcases h1 with q | q
        · rw [q] at hk
          exact .inl (hvb k hk).1
        · exact .inr (q k hk)
      · unfold upd at hy
        rw [if_neg hyx] at hy
        obtain ⟨ys, r1, -, -, r4, r5⟩ := h.rows y u hy
        rcases h1 with q | q
        · rw [q] at hk
          cases e : s z with
          | none => rw [hv, e] at hk; simp [Value.ownBlock] at hk
          | some u' =>
            rw [hv, e] at hk
            exact r5 z u' e (fun q => hyx q.symm) k hk' hk
        · have := own_lt r1 k hk'
          have := (q k hk).1
          omega
    · rename_i e
      obtain ⟨ys, r1, r2, r3, r4, r5⟩ := h.rows z u hz
      refine ⟨ys, own_move r1 (fun k hk => ho k (own_lt r1 k hk) (fun q => q1 z u hz (by rw [hk, q])) (fun q => ?_)), r2, fun y hy => hEE z y e (r3 y hy), fun k hk => .inl (r4 k hk), fun y u' hy hyz k hk hk' => ?_⟩
      · cases e' : s x with
        | none => rw [hv, e'] at q; simp [Value.ownBlock] at q
        | some u' =>
          rw [hv, e'] at q
          exact r5 x u' e' (fun q => e q.symm) k hk q.symm
      · unfold upd at hy
        split at hy
        · rename_i e2
          subst e2
          injection hy with hy
          subst hy
          rcases h1 with q | q
          · rw [q] at hk'
            cases e' : s y with
            | none => rw [hv, e'] at hk'; simp [Value.ownBlock] at hk'
            | some u2 =>
              rw [hv, e'] at hk'
              exact r5 y u2 e' hyz k hk hk'
          · have := own_lt r1 k hk
            have := (q k hk').1
            omega
        · exact r5 y u' hy hyz k hk hk'
  · rcases hk with hk | hk
    · exact Nat.lt_of_lt_of_le (h.old k hk) hs
    · exact hk.2
end
end Go.Proofs.YtjiolfpahollkaaGreatDoor.Msh
end
section
set_option linter.unusedVariables false
set_option linter.unusedSimpArgs false
namespace Go.Proofs.YtjiolfpahollkaaGreatDoor.Adm
end Go.Proofs.YtjiolfpahollkaaGreatDoor.Adm
namespace Go.Proofs.YtjiolfpahollkaaGreatDoor.E
end Go.Proofs.YtjiolfpahollkaaGreatDoor.E
namespace Go.Proofs.YtjiolfpahollkaaGreatDoor.Mp
end Go.Proofs.YtjiolfpahollkaaGreatDoor.Mp
namespace Go.Proofs.YtjiolfpahollkaaGreatDoor.R
end Go.Proofs.YtjiolfpahollkaaGreatDoor.R
namespace Go.Proofs.YtjiolfpahollkaaGreatDoorW.PrintLast
end Go.Proofs.YtjiolfpahollkaaGreatDoorW.PrintLast
namespace Go.Proofs.YtjiolfpahollkaaGreatDoorW.PrintMore
end Go.Proofs.YtjiolfpahollkaaGreatDoorW.PrintMore
namespace Go.Proofs.YtjiolfpahollkaaGreatDoorW.PrintWords
end Go.Proofs.YtjiolfpahollkaaGreatDoorW.PrintWords
namespace Go.Proofs.YtjiolfpahollkaaGreatDoor.Msh
open Go.RowKit Go.Sort Go.ChangeMaps Go.MapKept Go.Proofs.YtjiolfpahollkaaGreatDoor.Mp Go.Proofs.YtjiolfpahollkaaGreatDoor.Adm Go.Proofs.YtjiolfpahollkaaGreatDoor.R Go.Proofs.YtjiolfpahollkaaGreatDoor.E Go.Proofs.YtjiolfpahollkaaGreatDoorW.PrintWords Go.Proofs.YtjiolfpahollkaaGreatDoorW.PrintLast Go.Proofs.YtjiolfpahollkaaGreatDoorW.PrintMore
def hasN (l : List S) (i : Int) : Bool := decide (0 ≤ i ∧ i < l.length)
def fixE (l : List S) (a b : Int) : Int := if !(hasN l a) || !(hasN l b) then 11 else if a = b then 1 else 0
def fixF (l : List S) (F : List Tr) (a b c : Int) : List Tr := if fixE l a b = 0 then put2 (min a b, max a b, c) (loose (min a b) (max a b) F) else F
theorem cell_held {w w5 : World} {p : Addr} {v : Value} {b : Nat} (h0 : w.cell? p = some v) (hb : p.block ≠ b) (h : Gr w w5) (o : Obj) : (setBlock w5 b o).cell? p = some v := by
  rw [← h.cell h0]
  exact World.cell?_of_block (other_block hb o)
theorem fr_of_gr {M : Nat → Prop} {w w' : World} (h : Gr w w') : Fr M w w' := Fr.of_below h.below
theorem fr_block {M : Nat → Prop} {w : World} {b : Nat} (o : Obj) (hb : M b) : Fr M w (setBlock w b o) := ⟨rfl, rfl, rfl, by simp [setBlock], fun k hk hn => other_block (fun e => hn (by rw [e]; exact hb)) o⟩
theorem fr_upd {M : Nat → Prop} {w w5 : World} {b : Nat} (o : Obj) (h : Gr w w5) (hb : M b) : Fr M w (setBlock w5 b o) := (fr_of_gr (M := M) h).trans (fr_block o hb) (fun _ _ q => q)
section
variable {w : World} {mb : Nat} {l : List S} {O F : List Tr} {M : Nat → Prop}
theorem fix_ok {w5 : World} {A : Option Addr} {c ab sb fb : Nat} {f g : Int × Int → Option Value} {s : Int → Option Value} (h : MeshIn w mb A c ab sb fb l O F f g s M) (hG : Gr w w5) {a b cm : Int} (ha : hasN l a = true) (hb : hasN l b = true) {ob : Obj}
    (hm : MapF encE okE (setBlock w5 fb ob) fb (upd g (min a b, max a b) (some (.int .i64 cm)))) : MeshAt (setBlock w5 fb ob) mb l O (put2 (min a b, max a b, cm) (loose (min a b) (max a b) F)) M := by
  have h5 := h.toRaw.move hG.below.size (fun k hk => hG.below.block k (h.old k hk))
  obtain ⟨u1, u2⟩ := fxs_fix h.up2 h.fxs (min a b) (max a b) cm
  unfold hasN at ha hb
  rw [decide_eq_true_iff] at ha hb
  refine ⟨A, c, ab, sb, fb, f, _, s, { toRaw := h5.fixed_set hm (fun k hk => other_block hk ob) (by simp [setBlock]), apx := h.apx, fxs := u2, mesh := h.mesh, up2 := u1, good := h.good, rng := h.rng, frng := fun t ht => ?_ }⟩
  rcases put2_mem.mp ht with q | q
  · rw [q]; simp only; omega
  · exact h.frng t (List.mem_filter.mp q).1
set_option maxRecDepth 100000 in
set_option maxHeartbeats 4000000 in
theorem fix_call (h : MeshAt w mb l O F M) {a b cm : Int} (ha : W64 a) (hb : W64 b) : Calls Tryz.prog 51 #[ptr mb, .int .i64 a, .int .i64 b, .int .i64 cm] w fun e w' => e = .returned (.int .i64 (fixE l a b)) ∧ MeshAt w' mb l O (fixF l F a b cm) M ∧ Fr M w w' := by
  have hh := fun W i (hG : Gr w W) => has_call (h.below hG.below) i
  obtain ⟨A, c, ab, sb, fb, f, g, s, h⟩ := h
  have hM := h.mine.2.2.2
  have h0 : w.cell? ⟨mb, 4, none⟩ = some (.map (some fb)) := by rw [blk_cell h.blk]; rfl
  have hown := fun W => own_call a b W
  have hk : okE (min a b, max a b) := ⟨by have := w64_iff.mp ha; have := w64_iff.mp hb; exact w64 (by omega) (by omega), by have := w64_iff.mp ha; have := w64_iff.mp hb; exact w64 (by omega) (by omega)⟩
  have e0 : ∀ i, decide (0 ≤ i ∧ i < (l.length : Int)) = hasN l i := fun _ => rfl
  simp only [e0] at hh
  by_cases h1 : hasN l a = true
  · by_cases h2 : hasN l b = true
    · by_cases h3 : a = b
      · have e1 : fixE l a b = 1 := by unfold fixE; rw [h1, h2, if_neg (by decide), if_pos h3]
        have e2 : fixF l F a b cm = F := by unfold fixF; rw [e1, if_neg (by decide)]
        rw [e1, e2]
        have hAt : MeshAt w mb l O F M := ⟨A, c, ab, sb, fb, f, g, s, h⟩
        subst h3
        have d1 : (a == a) = true := by simp
        have ha1 := hh w a (Gr.refl w)
        rw [h1] at ha1
        clear hh h hown
        go_enter Tryz.func51, Tryz.ntmps51
        go_wp2_with (go_at_call 105; (with_reducible refine ha1.mono ?_); rintro u_ w5 ⟨rfl, rfl⟩)
        go_ret
        exact ⟨rfl, hAt, Fr.refl _ _⟩
      · have e1 : fixE l a b = 0 := by unfold fixE; rw [h1, h2, if_neg (by decide), if_neg h3]
        have e2 : fixF l F a b cm = put2 (min a b, max a b, cm) (loose (min a b) (max a b) F) := by unfold fixF; rw [e1, if_pos rfl]
        rw [e1, e2]
        have d1 : (a == b) = false := beq_eq_false_iff_ne.mpr h3
        have ha1 := hh w a (Gr.refl w)
        have hb1 := hh w b (Gr.refl w)
        rw [h1] at ha1
        rw [h2] at hb1
        have HH := Aside0.mk h
        have HK := Aside0.mk hk
        have hne : mb ≠ fb := fun e => by
          obtain ⟨o, q1, q2⟩ := map_obj h.fixed
          rw [← e, h.blk] at q1
          injection q1 with q1
          exact q2 _ _ _ q1.symm
        have HN := Aside0.mk (show (⟨mb, 4, none⟩ : Addr).block ≠ fb from hne)
        clear hne
        clear hh h e1 e2 e0 h3 hk
        go_enter Tryz.func51, Tryz.ntmps51
        go_upto_region 7 with (first | (go_at_call 105; (with_reducible refine ha1.mono ?_); rintro u_ w5 ⟨rfl, rfl⟩) | (go_at_call 105; (with_reducible refine hb1.mono ?_); rintro u_ w5 ⟨rfl, rfl⟩))
        go_region_held3 (fun W' => W'.cell? ⟨mb, 4, none⟩ = some (.map (some fb)))
          (first | (with_reducible exact cell_held h0 HN.out hG5 _) | (with_reducible refine Gr.cell (a := w) ?_ h0; (repeat (first | assumption | exact Gr.refl _ | apply Gr.drew | apply Gr.alloc | apply Gr.drewN))))
          ((go_at_call 79; (with_reducible refine (hown _).mono ?_); rintro u_ w5 ⟨rfl, hg5⟩; have hG5 := Gr.trans (a := w) (by (with_reducible (repeat (first | assumption | exact Gr.refl _ | apply Gr.drew | apply Gr.alloc | apply Gr.drewN)))) hg5; clear hg5; have hU := (HH.out.fixed.below hG5.below).update kE Tryz.underlying116 HK.out (.int .i64 cm); obtain ⟨ob, hrun, hmf⟩ := hU; have HF := Aside0.mk hmf; clear hmf))
        all_goals
          go_wp2
          go_ret
          exact ⟨rfl, fix_ok HH.out hG5 h1 h2 HF.out, fr_upd ob hG5 hM⟩
    · have h2' : hasN l b = false := by simpa using h2
      have e1 : fixE l a b = 11 := by unfold fixE; rw [h1, h2', if_pos (by decide)]
      have e2 : fixF l F a b cm = F := by unfold fixF; rw [e1, if_neg (by decide)]
      rw [e1, e2]
      have hAt : MeshAt w mb l O F M := ⟨A, c, ab, sb, fb, f, g, s, h⟩
      have ha1 := hh w a (Gr.refl w)
      have hb1 := hh w b (Gr.refl w)
      rw [h1] at ha1
      rw [h2'] at hb1
      clear hh h hown
      go_enter Tryz.func51, Tryz.ntmps51
      go_wp2_with (first | (go_at_call 105; (with_reducible refine ha1.mono ?_); rintro u_ w5 ⟨rfl, rfl⟩) | (go_at_call 105; (with_reducible refine hb1.mono ?_); rintro u_ w5 ⟨rfl, rfl⟩))
      go_ret
      exact ⟨rfl, hAt, Fr.refl _ _⟩
  · have h1' : hasN l a = false := by simpa using h1
    have e1 : fixE l a b = 11 := by unfold fixE; rw [h1']; simp
    have e2 : fixF l F a b cm = F := by unfold fixF; rw [e1, if_neg (by decide)]
    rw [e1, e2]
    have hAt : MeshAt w mb l O F M := ⟨A, c, ab, sb, fb, f, g, s, h⟩
    have ha1 := hh w a (Gr.refl w)
    rw [h1'] at ha1
    clear hh h hown
    go_enter Tryz.func51, Tryz.ntmps51
    go_wp2_with ((go_at_call 105; (with_reducible refine ha1.mono ?_); rintro u_ w5 ⟨rfl, rfl⟩))
    go_ret
    exact ⟨rfl, hAt, Fr.refl _ _⟩
end
end Go.Proofs.YtjiolfpahollkaaGreatDoor.Msh
end
