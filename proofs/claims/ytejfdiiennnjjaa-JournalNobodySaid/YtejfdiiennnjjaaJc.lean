/- journal.Format, on a disk that takes it. -/
import Derived.Test.YtejfdiiennnjjaaJa
import Derived.Test.YtejfdiiennnjjaaJb
import Derived.LoopTactic
namespace Go.Proofs.Ytejfdiiennnjjaa.J
open Go.RowKit Go.Proofs Go.Proofs.Ytejfdiiennnjjaa Go.Proofs.YtejfdiiennnjjaaW.PrintWords Go.Proofs.Ytejfdiiennnjjaa.D
set_option linter.unusedVariables false

/-- The disk behind so many of the two cuts. -/
def cuts (d : Dk) : Nat → Dk
  | 0 => d
  | 1 => cutD d 0 0
  | _ => cutD (cutD d 0 0) 1 0
def fmtD (d : Dk) (st : ByteArray) : Dk := synD (appD (cuts d 2) 0 (lay 1 0 st)) 0
def fmtJ (b : Nat) (st : ByteArray) : Jn := ⟨b, 0, 1, 0, st, .slice none 0 0, false⟩
set_option maxRecDepth 100000 in
theorem Format_nil (st : ByteArray) (w : World) : Calls Try.prog 51 #[.pointer none, .string st] w fun e w' => e = .returned (.tuple #[.pointer none, .int .i64 3]) ∧ Below w.heap.size w w' := by
  go_enter Try.func51, Try.ntmps51
  go_wp2_with fail
  go_loopw [12] (fun i wr => i = .int .i64 0 ∧ wr = w) (fun i _ => (2 - intOf i).toNat)
  case atStart => exact ⟨rfl, rfl⟩
  case round =>
    obtain ⟨rfl, rfl⟩ := hrel
    go_wp2_with fail
    refine (D.Cut_nil 0 0 _).mono ?_; rintro e w1 ⟨rfl, rfl⟩
    go_wp2_with fail
    go_ret2
    exact ⟨rfl, Below.refl _ _⟩
set_option maxRecDepth 100000 in
set_option maxHeartbeats 4000000 in
theorem Format_ok (b : Nat) (d : Dk) (st : ByteArray) (w : World) (h : D.Is b d w) (hf : d.Fits) (hs : st.size ≤ 1000000)
    (c0 : cutN d 0 0 = 0) (c1 : cutN (cutD d 0 0) 1 0 = 0) (a0 : appN (cuts d 2) 0 (lay 1 0 st) = 0) (y0 : synN (appD (cuts d 2) 0 (lay 1 0 st)) 0 = 0) :
    Calls Try.prog 51 #[.pointer (some ⟨b, 0, none⟩), .string st] w fun e w' => ∃ jb, e = .returned (.tuple #[.pointer (some ⟨jb, 0, none⟩), .int .i64 0]) ∧ Jo jb (fmtJ b st) [] (fmtD d st) b w' ∧ D.Turn b (fmtD d st) w w' ∧ w.heap.size ≤ jb := by
  have hb := lt_of_block h
  go_enter Try.func51, Try.ntmps51
  go_wp2_with fail
  go_loopw [12] (fun i wr => ∃ n : Int, 0 ≤ n ∧ n ≤ 2 ∧ i = .int .i64 n ∧ D.Turn b (cuts d n.toNat) w wr) (fun i _ => (2 - intOf i).toNat)
  case atStart => exact ⟨0, by omega, by omega, rfl, D.Turn.refl h⟩
  case round =>
    obtain ⟨n, hn0, hn2, rfl, T⟩ := hrel
    obtain rfl | rfl | rfl : n = 0 ∨ n = 1 ∨ n = 2 := by omega
    · replace T : D.Turn b d w wr := T
      have C := D.Cut_any b d 0 0 wr T.is hf
      rw [c0] at C
      go_wp2_with fail
      refine C.mono ?_; rintro e w1 ⟨rfl, T1⟩
      have T2 := T.trans T1
      clear T1 T C
      go_wp2_with fail
      go_roundw
      case rel => exact ⟨1, by omega, by omega, rfl, T2⟩
      case measure => simp [intOf]
    · replace T : D.Turn b (cutD d 0 0) w wr := T
      have C := D.Cut_any b _ 1 0 wr T.is (cutD_fits hf 0 0)
      rw [c1] at C
      go_wp2_with fail
      refine C.mono ?_; rintro e w1 ⟨rfl, T1⟩
      have T2 := T.trans T1
      clear T1 T C
      go_wp2_with fail
      go_roundw
      case rel => exact ⟨2, by omega, by omega, rfl, T2⟩
      case measure => simp [intOf]
    · replace T : D.Turn b (cuts d 2) w wr := T
      have hf2 : (cuts d 2).Fits := cutD_fits (cutD_fits hf 0 0) 1 0
      go_wp2_with fail
      refine (lay_any 1 0 st (by omega) (by omega) (by omega) _).mono ?_; rintro e w1 ⟨rfl, B1⟩
      have T1 : D.Turn b (cuts d 2) w w1 := ⟨(B1.block _ (lt_of_block T.is)).trans T.is, fun c hc hne => (B1.block c (Nat.lt_of_lt_of_le hc T.size)).trans (T.others c hc hne), Nat.le_trans T.size B1.size, fun X hX => (T.below X hX).trans (B1.mono (Nat.le_of_lt (Nat.lt_of_le_of_lt hX (lt_of_block T.is))))⟩
      clear B1 T
      have A := D.Append_any b (cuts d 2) 0 (lay 1 0 st) w1 T1.is hf2
      rw [a0] at A
      go_wp2_with fail
      refine A.mono ?_; rintro e w2 ⟨rfl, T2⟩
      have T3 := T1.trans T2
      clear T1 T2 A
      have Y := D.Sync_any b (appD (cuts d 2) 0 (lay 1 0 st)) 0 w2 T3.is (appD_fits hf2 0 _)
      rw [y0] at Y
      go_wp2_with fail
      refine Y.mono ?_; rintro e w3 ⟨rfl, T4⟩
      have T5 := T3.trans T4
      clear T3 T4 Y
      go_wp2_with fail
      go_ret2
      have hj := T5.size
      exact ⟨_, rfl, ⟨heap_alloc_new _ _, (T5.alloc _).is, Kd.R_nil _ _ _ _ _, by show _ ≠ b; omega, by omega, Nat.le_refl _⟩, T5.alloc _, T5.size⟩
end Go.Proofs.Ytejfdiiennnjjaa.J
