/- Words for float64 beside the print's own: a kind for floats by their bits. No condition. -/
import Derived.Test.YthcklcfdeejkpaaWMore
import Derived.Test.YthcklcfdeejkpaaWFootNe
import Derived.Laws.FloatArith
namespace Go.Proofs.YthcklcfdeejkpaaW.PrintWords
open Go.RowKit
namespace Kd
def f64 : Kd Nat := scalar (Value.float .f64) (fun _ => rfl)
section
variable {w : World} {A : Option Addr} {n : Nat}
theorem at_f64 {xs : List Nat} (h : Kd.f64.C w A n xs) (i : Int) (h0 : 0 ≤ i) (h1 : i < n) : ∃ ad, A = some ad ∧ w.cell? (ad.add i.toNat) = some (.float .f64 (rdOf (0 : Nat) xs i)) :=
  ReadsOf.at_ (reads_of_C (enc := Value.float .f64) (d := (0 : Nat)) (h1 := fun _ => rfl) h) i h0 h1
theorem heap_f64 : Heap Kd.f64 := ⟨fun _ h => h⟩
end
theorem V_in {α : Type} {d : Kd α} {e base n c : Nat} {ok : Nat → Prop} {W : World} {ad : Addr} {xs : List α} (h : V d e W base ok (.slice (some ad) n c) xs) (hn : 0 < n) (hs : 0 < d.sz) : ok ad.block := by
  obtain ⟨A, c', hv, _, hf⟩ := h
  injection hv with h1 h2 h3
  subst h1 h2
  exact F_in hf rfl hn hs
end Kd
end Go.Proofs.YthcklcfdeejkpaaW.PrintWords
