/- A text of so many zero bytes, made by string(make([]byte, n)). -/
import Derived.Test.YtejfdiiennnjjaaDr
import Derived.Test.YtejfdiiennnjjaaWWords
namespace Go.Proofs.Ytejfdiiennnjjaa.D
open Go.RowKit Go.Proofs Go.Proofs.Ytejfdiiennnjjaa Go.Proofs.YtejfdiiennnjjaaW.PrintWords
set_option linter.unusedVariables false

def zer (n : Nat) : ByteArray := strOfNums (List.replicate n 0)
theorem zer_size (n : Nat) : (zer n).size = n := by unfold zer; rw [strOfNums_size]; simp
theorem u8_info : (Try.prog.info? 5).map (fun i => (i.zero, i.size, i.bytes)) = some (some (.int .u8 0), 1, 1) := by kernel_rfl
theorem make_zero (n : Int) (h0 : 0 ≤ n) (hn : n ≤ 1048577) (W : World) : (Instr.makeSlice 27 (.int .i64 n) (.int .i64 n)).run Try.prog W = .ok (.slice (some ⟨W.heap.size, 0, none⟩) n.toNat n.toNat) (W.alloc (.cells (madeCells #[.int .u8 0] n.toNat) 5)) :=
  print_make_int 27 5 (.int .u8 0) 1 Try.underlying27 u8_info rfl (by decide) n h0 (by omega) W
theorem conv_zero (m c : Nat) (hm : m ≤ 1048577) (W : World) : (convert 27 9 (.slice (some ⟨W.heap.size, 0, none⟩) m c)).run Try.prog (W.alloc (.cells (madeCells #[.int .u8 0] m) 5)) = .ok (.string (zer m)) (W.alloc (.cells (madeCells #[.int .u8 0] m) 5)) := by
  refine string_of_reads Try.underlying27 Try.underlying5 Try.underlying9 ⟨by simp, by omega, fun _ => ⟨_, rfl, fun j hj => ?_⟩⟩
  have := heap_alloc_new W (.cells (madeCells #[.int .u8 0] m) 5)
  have ha : (⟨W.heap.size, 0, none⟩ : Addr).add j = ⟨W.heap.size, j, none⟩ := by
    unfold Addr.add; split
    · simp_all
    · simp
  rw [ha]
  simp only [World.cell?, this]
  simp [madeCells, hj, Nat.mod_one]
end Go.Proofs.Ytejfdiiennnjjaa.D
