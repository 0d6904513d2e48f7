/- How an act that comes in is read: its eight cells. -/
import Derived.Test.YtejfdiiennnjjaaDr
import Derived.WideShapes
import Derived.ChangeShapes
namespace Go.Proofs.Ytejfdiiennnjjaa
open Go.ChangeShapes Go.WideShapes Go.RowKit
set_option linter.unusedVariables false

theorem cell_int {P : Program} {W : World} {r : Reach} {base : Nat} {t : TypeId} {v : Value} (ht : P.underlying t = some (.int .i64)) (h : Cell.okWide P W r base t v) : ∃ n, v = .int .i64 n :=
  okWide_int ht (by unfold Value.okWide; rw [ht]; exact h)
theorem cell_string {P : Program} {W : World} {r : Reach} {base : Nat} {t : TypeId} {v : Value} (ht : P.underlying t = some .string) (h : Cell.okWide P W r base t v) : ∃ s, v = .string s :=
  okWide_string ht (by unfold Value.okWide; rw [ht]; exact h)
theorem act_types : Try.prog.cellTypes Try.prog.depth 61 = some [3, 3, 9, 3, 3, 3, 3, 3] := by kernel_rfl
theorem act_size : Try.prog.cellsOf 61 = 8 := by kernel_rfl
theorem open_act_of {P : Program} {W : World} {r : Reach} {base : Nat} {v : Value} {fs : Array Field} (hu : P.underlying 61 = some (.struct fs)) (hi : P.underlying 3 = some (.int .i64)) (hst : P.underlying 9 = some .string)
    (act_types : P.cellTypes P.depth 61 = some [3, 3, 9, 3, 3, 3, 3, 3]) (act_size : P.cellsOf 61 = 8) (hv : Value.okWide P W r base 61 v) :
    ∃ (k f : Int) (s : ByteArray) (n k0 k1 k2 k3 : Int), v = .agg (D.actCells k f s n k0 k1 k2 k3) := by
  unfold Value.okWide at hv
  rw [hu] at hv
  obtain ⟨cs, rfl, hsz, ts, hts, _, hc⟩ := hv
  rw [act_types] at hts
  obtain rfl := Option.some.inj hts
  rw [act_size] at hsz
  have g : ∀ i (h : i < 8) u, [3, 3, 9, 3, 3, 3, 3, 3][i % 8]? = some u → Cell.okWide P W r base u (cs[i]'(by omega)) := fun i h u hu' => by
    obtain ⟨u', e, h'⟩ := hc i _ (Array.getElem?_eq_getElem (by omega))
    obtain rfl := Option.some.inj (e.symm.trans hu')
    exact h'
  have h0 := g 0 (by omega) 3 rfl
  have h1 := g 1 (by omega) 3 rfl
  have h2 := g 2 (by omega) 9 rfl
  have h3 := g 3 (by omega) 3 rfl
  have h4 := g 4 (by omega) 3 rfl
  have h5 := g 5 (by omega) 3 rfl
  have h6 := g 6 (by omega) 3 rfl
  have h7 := g 7 (by omega) 3 rfl
  obtain ⟨k, e0⟩ := cell_int hi h0
  obtain ⟨f, e1⟩ := cell_int hi h1
  obtain ⟨s, e2⟩ := cell_string hst h2
  obtain ⟨n, e3⟩ := cell_int hi h3
  obtain ⟨k0, e4⟩ := cell_int hi h4
  obtain ⟨k1, e5⟩ := cell_int hi h5
  obtain ⟨k2, e6⟩ := cell_int hi h6
  obtain ⟨k3, e7⟩ := cell_int hi h7
  refine ⟨k, f, s, n, k0, k1, k2, k3, ?_⟩
  congr 1
  apply Array.ext
  · rw [hsz]; rfl
  · intro i hj hj'
    rw [hsz] at hj
    obtain rfl | rfl | rfl | rfl | rfl | rfl | rfl | rfl : i = 0 ∨ i = 1 ∨ i = 2 ∨ i = 3 ∨ i = 4 ∨ i = 5 ∨ i = 6 ∨ i = 7 := by omega
    · exact e0
    · exact e1
    · exact e2
    · exact e3
    · exact e4
    · exact e5
    · exact e6
    · exact e7
set_option maxRecDepth 100000 in
theorem open_act {W : World} {r : Reach} {base : Nat} {v : Value} (hv : Value.okWide Try.prog W r base 61 v) :
    ∃ (k f : Int) (s : ByteArray) (n k0 k1 k2 k3 : Int), v = .agg (D.actCells k f s n k0 k1 k2 k3) := open_act_of Try.underlying61 Try.underlying3 Try.underlying9 act_types act_size hv
end Go.Proofs.Ytejfdiiennnjjaa
