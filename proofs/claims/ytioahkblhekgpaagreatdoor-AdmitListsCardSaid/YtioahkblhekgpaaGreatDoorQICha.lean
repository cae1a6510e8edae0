/- What the proof needs of Cha: only what is used is left (wip/tools/prune.py). Conditions stand in each sentence. -/
import Derived.ArgAppend
import Derived.Test.YtioahkblhekgpaaGreatDoorQIChn
import Derived.Test.YtioahkblhekgpaaGreatDoorQIUnw
set_option linter.unusedVariables false
set_option linter.unusedSimpArgs false
namespace Go.Proofs.YtioahkblhekgpaaGreatDoor.E
end Go.Proofs.YtioahkblhekgpaaGreatDoor.E
namespace Go.Proofs.YtioahkblhekgpaaGreatDoor.FltP
end Go.Proofs.YtioahkblhekgpaaGreatDoor.FltP
namespace Go.Proofs.YtioahkblhekgpaaGreatDoor.O
end Go.Proofs.YtioahkblhekgpaaGreatDoor.O
namespace Go.Proofs.YtioahkblhekgpaaGreatDoor.R
end Go.Proofs.YtioahkblhekgpaaGreatDoor.R
namespace Go.Proofs.YtioahkblhekgpaaGreatDoorW.PrintLast
end Go.Proofs.YtioahkblhekgpaaGreatDoorW.PrintLast
namespace Go.Proofs.YtioahkblhekgpaaGreatDoorW.PrintMore
end Go.Proofs.YtioahkblhekgpaaGreatDoorW.PrintMore
namespace Go.Proofs.YtioahkblhekgpaaGreatDoorW.PrintWords
end Go.Proofs.YtioahkblhekgpaaGreatDoorW.PrintWords
namespace Go.Proofs.YtioahkblhekgpaaGreatDoor.Adm
open Go.RowKit Go.Proofs.YtioahkblhekgpaaGreatDoor.FltP Go.Proofs.YtioahkblhekgpaaGreatDoor.R Go.Proofs.YtioahkblhekgpaaGreatDoor.E Go.Proofs.YtioahkblhekgpaaGreatDoor.O Go.Proofs.YtioahkblhekgpaaGreatDoorW.PrintWords Go.Proofs.YtioahkblhekgpaaGreatDoorW.PrintLast Go.Proofs.YtioahkblhekgpaaGreatDoorW.PrintMore
def Ck (w : World) (base : Nat) (v : Value) (xs : List Nat) : Prop :=
  Kd.R (Kd.int .i64) 3 w base (fun _ => True) v (zi xs) ∨ ∃ b, v = .slice (some ⟨b, 0, none⟩) xs.length xs.length ∧ Kd.C (Kd.int .i64) w (some ⟨b, 0, none⟩) xs.length (zi xs)
theorem zi_length (xs : List Nat) : (zi xs).length = xs.length := List.length_map ..
theorem ck_app {W w0 : World} {base : Nat} {v : Value} {xs : List Nat} (h : Ck W base v xs) (x : Nat) (HB : Below base w0 W) (hbase : base ≤ W.heap.size) (hl : xs.length ≤ 4000000) :
    ∃ v1 w1, (Builtin.append_ #[26, 26] 26 #[v, .slice (some ⟨W.heap.size, 0, none⟩) 1 1]).run Tryz.prog (W.alloc (.cells #[.int .i64 x] 3)) = .ok v1 w1 ∧ Kd.R (Kd.int .i64) 3 w1 base (fun _ => True) v1 (zi (xs ++ [x])) ∧ Below base w0 w1 := by
  obtain ⟨i0, hi, hz0, hz1, hz2⟩ := info_parts infoI
  have hen : ∀ ys : List Nat, encs (Value.int .i64) (zi ys) ++ [Value.int .i64 (x : Int)] = encs (Value.int .i64) (zi (ys ++ [x])) := fun ys => by unfold encs zi; simp
  have hnews : ∀ j u, ([Value.int .i64 (x : Int)] : List Value)[j]? = some u → (W.alloc (.cells #[.int .i64 x] 3)).cell? ((⟨W.heap.size, 0, none⟩ : Addr).add j) = some u := by
    simpa using World.news_of_block (cs := #[Value.int .i64 (x : Int)]) (t := 3) (fr := (0, 0)) (heap_alloc_new W (.cells #[.int .i64 x] 3))
  have h1 : ∀ u ∈ ([Value.int .i64 (x : Int)] : List Value), u.oneCell' = true := fun u hu => by rw [List.mem_singleton.mp hu]; rfl
  rcases h with h | ⟨b, rfl, h⟩
  · have HO := Kd.own_of_R h
    obtain ⟨v1, w1, e, ho, hg, -⟩ := run_append_own (P := Tryz.prog) (W.alloc (.cells #[.int .i64 x] 3)) base 26 26 3 i0 _ 1 8 Tryz.underlying26 hi hz0 hz1 hz2 rfl (by omega) v (zi xs).length _ (HO.alloc _) ⟨W.heap.size, 0, none⟩ 1 1 [.int .i64 x] rfl hnews h1 (by rw [zi_length]; simp only [maxLen]; omega) (by rw [zi_length]; omega) (by simp; omega)
    have hg2 : W.grownBy w1 v.ownBlock := World.grownBy.trans (World.grownBy_alloc W _ _) hg
    refine ⟨v1, w1, e, Kd.R_of_own ?_ (fun _ _ => trivial), HB.grown hg2 hbase (own_base HO)⟩
    rw [← hen, zi_length, List.length_append, List.length_singleton, ← zi_length xs]
    exact ho
  · have hold : ∀ j u, (encs (Value.int .i64) (zi xs))[j]? = some u → (W.alloc (.cells #[.int .i64 x] 3)).cell? ((⟨b, 0, none⟩ : Addr).add j) = some u := fun j u hu => by
      have hj : j < xs.length := by
        have := (List.getElem?_eq_some_iff.mp hu).1
        simpa [encs, zi] using this
      have hcj := row_cells h j hj
      rw [Addr.add_lit]
      have hu2 : u = .int .i64 (rd (zi xs) (j : Int)) := by
        rw [encs, List.getElem?_map] at hu
        have hz : (zi xs)[j]? = some (rd (zi xs) (j : Int)) := by
          rw [List.getElem?_eq_getElem (by rw [zi_length]; exact hj), rd, Int.toNat_natCast, List.getD_eq_getElem?_getD, List.getElem?_eq_getElem (by rw [zi_length]; exact hj)]; rfl
        rw [hz] at hu
        exact (Option.some.inj hu).symm
      rw [hu2]
      exact bcell (below_alloc (Below.refl _ _) _) hcj
    obtain ⟨v1, w1, e, ho, hg⟩ := run_append_arg_grows (P := Tryz.prog) (W.alloc (.cells #[.int .i64 x] 3)) 26 26 3 i0 _ 1 8 Tryz.underlying26 hi hz0 hz1 hz2 rfl (by omega) ⟨b, 0, none⟩ xs.length xs.length (encs (Value.int .i64) (zi xs)) (by simp [encs, zi]) hold ⟨W.heap.size, 0, none⟩ 1 1 [.int .i64 x] rfl hnews (by omega) (by simp only [maxLen]; omega) (by omega)
    have hg2 : W.grownBy w1 none := World.grownBy.trans (World.grownBy_alloc W _ _) hg
    refine ⟨v1, w1, e, Kd.R_of_own ?_ (fun _ _ => trivial), HB.grown hg2 hbase (fun k hk => by cases hk)⟩
    rw [← hen, zi_length, List.length_append, List.length_singleton]
    exact own_weaken ho (by simp; omega)
theorem wp_ck {ops : Array Oper} {rest : List Oper} {o : Oper} {a : Act} {Q : Exit → Act → World → Prop} {W w0 : World} {base b : Nat} {v : Value} {xs : List Nat} {x : Nat} (h : Ck W base v xs) (HB : Below base w0 W) (hbase : base ≤ W.heap.size) (hl : xs.length ≤ 4000000) (hgd : o.guard = none) (s y : Operand) (ho : o.op = .call { callee := .builtin .append, args := #[s, y], argTypes := #[26, 26] }) (hty : o.type = 26) (hs : a.eval s = v) (hy : a.eval y = .slice (some ⟨b, 0, none⟩) 1 1) (hb : b = W.heap.size)
    (hK : ∀ v1 w1, Kd.R (Kd.int .i64) 3 w1 base (fun _ => True) v1 (zi (xs ++ [x])) → Below base w0 w1 → wpList Tryz.prog ops Q rest (a.put o.dst v1) w1) : wpList Tryz.prog ops Q (o :: rest) a (W.alloc (.cells #[.int .i64 x] 3)) := by
  subst hb
  obtain ⟨v1, w1, hr, h1, h2⟩ := ck_app h x HB hbase hl
  refine wpList_plain hgd fun K hK' => ?_
  unfold Oper.wp execOp
  simp only [ho, resolve, invoke, builtin, Sem.run_bind, Sem.run_pure, Result.andThen_ok, List.map_toArray, List.map_cons, List.map_nil, hs, hy, hty, hr]
  exact hK' _ _ (hK v1 w1 h1 h2)
end Go.Proofs.YtioahkblhekgpaaGreatDoor.Adm
