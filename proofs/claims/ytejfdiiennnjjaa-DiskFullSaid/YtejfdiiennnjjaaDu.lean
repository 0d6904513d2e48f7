/- DiskFull: the walk. -/
import Derived.Test.YtejfdiiennnjjaaDt
namespace Go.Proofs.Ytejfdiiennnjjaa.D
open Go.RowKit Go.Proofs Go.Proofs.Ytejfdiiennnjjaa
set_option linter.unusedVariables false

theorem no_size : (⟨#[]⟩ : ByteArray).size = 0 := rfl
theorem one_late (i : Int) (hi : i = 0 ∨ i = 1 ∨ i = 2 ∨ i = 3) (x : ByteArray) (hx : x.size ≤ 1048576) :
    (zero.setL i x).Fits ∧ rdy (zero.setL i x) i = 0 ∧ (zero.setL i x).len i = x.size ∧ ¬ (zero.setL i x).left = 0 ∧ (zero.setL i x).l i = x ∧ useD (zero.setL i x) = zero.setL i x ∧ ∀ y, (zero.setL i x).setL i y = zero.setL i y := by
  have h1 : (⟨#[]⟩ : ByteArray).size + x.size ≤ 1048576 := by rw [no_size, Nat.zero_add]; exact hx
  have h0 : (⟨#[]⟩ : ByteArray).size + (⟨#[]⟩ : ByteArray).size ≤ 1048576 := by rw [no_size]; omega
  have hl : (-1 : Int) ≤ 9223372036854775807 ∧ -9223372036854775808 ≤ (-1 : Int) := by omega
  have hz : (⟨#[]⟩ : ByteArray).size + x.size = x.size := by rw [no_size, Nat.zero_add]
  have hn : ¬ (-1 : Int) = 0 := by omega
  obtain rfl | rfl | rfl | rfl := hi
  · exact ⟨⟨h1, h0, h0, h0, hl⟩, rfl, hz, hn, rfl, rfl, fun y => rfl⟩
  · exact ⟨⟨h0, h1, h0, h0, hl⟩, rfl, hz, hn, rfl, rfl, fun y => rfl⟩
  · exact ⟨⟨h0, h0, h1, h0, hl⟩, rfl, hz, hn, rfl, rfl, fun y => rfl⟩
  · exact ⟨⟨h0, h0, h0, h1, hl⟩, rfl, hz, hn, rfl, rfl, fun y => rfl⟩

set_option maxRecDepth 100000 in
set_option maxHeartbeats 4000000 in
theorem Full_any (k n : Int) (w : World) (hk0 : 0 ≤ k) (hk : k ≤ 255) (hn0 : 0 ≤ n) (hn : n ≤ 65535) : Calls Try.prog 7 #[.int .u8 k, .int .u16 n] w fun e w' => e = .returned (.bool true) ∧ Below w.heap.size w w' := by
  have hi : k % 4 = 0 ∨ k % 4 = 1 ∨ k % 4 = 2 ∨ k % 4 = 3 := by omega
  have hrz : rdy zero (k % 4) = 0 := by rcases hi with h | h | h | h <;> rw [h] <;> rfl
  have hlz : zero.l (k % 4) = ⟨#[]⟩ ∧ zero.len (k % 4) = 0 := by rcases hi with h | h | h | h <;> rw [h] <;> exact ⟨rfl, rfl⟩
  have hfz : zero.Fits := by unfold Dk.Fits; decide
  obtain ⟨F1, R1, L1, N1, l1, u1, s1⟩ := one_late (k % 4) hi (zer (1048576 - n).toNat) (by rw [zer_size]; omega)
  obtain ⟨F2, R2, L2, N2, l2, u2, s2⟩ := one_late (k % 4) hi (zer (1048576 - n).toNat ++ zer n.toNat) (by rw [ByteArray.size_append, zer_size, zer_size]; omega)
  rw [zer_size] at L1
  rw [ByteArray.size_append, zer_size, zer_size] at L2
  have L2' : (1048576 - n).toNat + n.toNat = 1048576 := by omega
  rw [L2'] at L2
  go_enter Try.func7, Try.ntmps7
  go_wp2_with fail
  refine (New_any w).mono ?_; rintro e w1 ⟨rfl, h1, b1⟩
  go_wp2_with fail
  rw [make_zero (1048576 - n) (by omega) (by omega)]
  simp only [Result.andThen]
  rw [Oper.upon_value]
  go_wp2_with fail
  rw [conv_zero _ _ (by omega)]
  simp only [Result.andThen]
  rw [Oper.upon_value]
  go_wp2_with fail
  have T1 := (Turn.refl h1).alloc (Obj.cells (madeCells #[.int .u8 0] (1048576 - n).toNat) 5)
  have A1 := Append_ok w.heap.size zero (k % 4) (zer (1048576 - n).toNat) _ T1.is hfz hrz (by rw [hlz.2, zer_size]; omega) (by decide)
  rw [hlz.1, empty_app, show useD zero = zero from rfl] at A1
  refine A1.mono ?_; rintro e w2 ⟨rfl, T2⟩
  have B2 := (b1.trans (T1.below _ (Nat.le_refl _))).trans (T2.below _ (Nat.le_refl _))
  have h2 := T2.is
  clear A1 T1 T2 h1 b1
  go_wp2_with fail
  rw [make_zero (n + 1) (by omega) (by omega)]
  simp only [Result.andThen]
  rw [Oper.upon_value]
  go_wp2_with fail
  rw [conv_zero _ _ (by omega)]
  simp only [Result.andThen]
  rw [Oper.upon_value]
  go_wp2_with fail
  have T1 := (Turn.refl h2).alloc (Obj.cells (madeCells #[.int .u8 0] (n + 1).toNat) 5)
  have A1 := Append_full w.heap.size _ (k % 4) (zer (n + 1).toNat) _ T1.is F1 R1 (by rw [L1, zer_size]; omega)
  refine A1.mono ?_; rintro e w3 ⟨rfl, nq, e3⟩
  have T3 := T1.drewN nq
  rw [← e3] at T3
  have B3 := B2.trans (T3.below _ (Nat.le_refl _))
  have h3 := T3.is
  clear A1 T1 T3 h2 e3 B2
  go_wp2_with fail
  rw [make_zero (n) (by omega) (by omega)]
  simp only [Result.andThen]
  rw [Oper.upon_value]
  go_wp2_with fail
  rw [conv_zero _ _ (by omega)]
  simp only [Result.andThen]
  rw [Oper.upon_value]
  go_wp2_with fail
  have T1 := (Turn.refl h3).alloc (Obj.cells (madeCells #[.int .u8 0] n.toNat) 5)
  have A1 := Append_ok w.heap.size _ (k % 4) (zer n.toNat) _ T1.is F1 R1 (by rw [L1, zer_size]; omega) N1
  rw [l1, u1, s1] at A1
  refine A1.mono ?_; rintro e w4 ⟨rfl, T2⟩
  have B4 := (B3.trans (T1.below _ (Nat.le_refl _))).trans (T2.below _ (Nat.le_refl _))
  have h4 := T2.is
  clear A1 T1 T2 h3 B3
  go_wp2_with fail
  refine (Append_full w.heap.size _ (k % 4) ⟨#[120]⟩ _ h4 F2 R2 (by rw [L2]; decide)).mono ?_; rintro e w5 ⟨rfl, nq5, e5⟩
  have T5 := (Turn.refl h4).drewN nq5
  rw [← e5] at T5
  clear e5
  go_wp2_with fail
  have LL := Len_ok w.heap.size _ (k % 4) _ T5.is F2 R2
  change Calls _ _ _ _ (fun e w' => e = .returned (.tuple #[.int .i64 (Dk.len _ (k % 4) : Nat), .int .i64 0]) ∧ ∃ n, w' = w5.drewN n) at LL
  rw [L2] at LL
  refine LL.mono ?_; rintro e w6 ⟨rfl, nq6, e6⟩
  have T6 := T5.drewN nq6
  rw [← e6] at T6
  clear e6
  go_wp2_with fail
  refine (awake_any _).mono ?_; rintro e w7 ⟨rfl, b7⟩
  go_wp2
  go_ret
  exact ⟨rfl, (B4.trans (T6.below _ (Nat.le_refl _))).trans (b7.mono (Nat.le_of_lt (lt_of_block T6.is)))⟩
end Go.Proofs.Ytejfdiiennnjjaa.D
