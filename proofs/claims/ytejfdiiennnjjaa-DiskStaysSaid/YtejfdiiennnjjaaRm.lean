/- How an array of four whole numbers that comes in is read. -/
import Derived.Test.YtejfdiiennnjjaaDv
namespace Go.Proofs.Ytejfdiiennnjjaa
open Go.ChangeShapes Go.WideShapes Go.RowKit
set_option linter.unusedVariables false
theorem arr_types : Try.prog.cellTypes Try.prog.depth 59 = some [3, 3, 3, 3] := by kernel_rfl
theorem arr_size : Try.prog.cellsOf 59 = 4 := by kernel_rfl
theorem open_arr_of {P : Program} {W : World} {r : Reach} {base : Nat} {v : Value} (hu : P.underlying 59 = some (.array 4 3)) (hi : P.underlying 3 = some (.int .i64))
    (arr_types : P.cellTypes P.depth 59 = some [3, 3, 3, 3]) (arr_size : P.cellsOf 59 = 4) (hv : Value.okWide P W r base 59 v) :
    ∃ (k0 k1 k2 k3 : Int), v = .agg #[.int .i64 k0, .int .i64 k1, .int .i64 k2, .int .i64 k3] := by
  unfold Value.okWide at hv
  rw [hu] at hv
  obtain ⟨cs, rfl, hsz, ts, hts, _, hc⟩ := hv
  rw [arr_types] at hts
  obtain rfl := Option.some.inj hts
  rw [arr_size] at hsz
  have g : ∀ i (h : i < 4) u, [3, 3, 3, 3][i % 4]? = some u → Cell.okWide P W r base u (cs[i]'(by omega)) := fun i h u hu' => by
    obtain ⟨u', e, h'⟩ := hc i _ (Array.getElem?_eq_getElem (by omega))
    obtain rfl := Option.some.inj (e.symm.trans hu')
    exact h'
  have h0 := g 0 (by omega) 3 rfl
  have h1 := g 1 (by omega) 3 rfl
  have h2 := g 2 (by omega) 3 rfl
  have h3 := g 3 (by omega) 3 rfl
  obtain ⟨k0, e0⟩ := cell_int hi h0
  obtain ⟨k1, e1⟩ := cell_int hi h1
  obtain ⟨k2, e2⟩ := cell_int hi h2
  obtain ⟨k3, e3⟩ := cell_int hi h3
  refine ⟨k0, k1, k2, k3, ?_⟩
  congr 1
  apply Array.ext
  · rw [hsz]; rfl
  · intro i hj hj'
    rw [hsz] at hj
    obtain rfl | rfl | rfl | rfl : i = 0 ∨ i = 1 ∨ i = 2 ∨ i = 3 := by omega
    · exact e0
    · exact e1
    · exact e2
    · exact e3
set_option maxRecDepth 100000 in
theorem open_arr {W : World} {r : Reach} {base : Nat} {v : Value} (hv : Value.okWide Try.prog W r base 59 v) : ∃ (k0 k1 k2 k3 : Int), v = .agg #[.int .i64 k0, .int .i64 k1, .int .i64 k2, .int .i64 k3] :=
  open_arr_of Try.underlying59 Try.underlying3 arr_types arr_size hv
end Go.Proofs.Ytejfdiiennnjjaa
