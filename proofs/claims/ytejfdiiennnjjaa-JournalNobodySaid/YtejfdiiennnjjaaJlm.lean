/- Open of no disk, and of one without a journal. JournalNobody: the walk. -/
import Derived.Test.YtejfdiiennnjjaaJk
namespace Go.Proofs.Ytejfdiiennnjjaa.J
open Go.RowKit Go.Proofs Go.Proofs.Ytejfdiiennnjjaa Go.Proofs.YtejfdiiennnjjaaW.PrintWords Go.Proofs.Ytejfdiiennnjjaa.D
set_option linter.unusedVariables false

set_option maxRecDepth 100000 in
theorem Open_nil (w : World) : Calls Try.prog 50 #[.pointer none] w fun e w' => e = .returned (.tuple #[.pointer none, .int .i64 3]) ∧ Below w.heap.size w w' := by
  go_enter Try.func50, Try.ntmps50
  go_wp2_with fail
  go_loopw [5, 15] (fun f i wr => f = .int .i64 (-1) ∧ i = .int .i64 0 ∧ Below w.heap.size w wr) (fun f i _ => (2 - intOf i).toNat)
  case atStart => exact ⟨rfl, rfl, (Below.refl _ _).alloc (Nat.le_refl _) _⟩
  case round =>
    obtain ⟨rfl, rfl, B⟩ := hrel
    go_wp2_with fail
    refine (D.Read_nil 0 _).mono ?_; rintro e w1 ⟨rfl, rfl⟩
    go_wp2_with fail
    go_ret2
    exact ⟨rfl, B⟩
set_option maxRecDepth 100000 in
set_option maxHeartbeats 4000000 in
theorem Open_none (b : Nat) (d : Dk) (w : World) (h : D.Is b d w) (hf : d.Fits) (r0 : rdy d 0 = 0) (r1 : rdy d 1 = 0) (e0 : allOf d 0 = ⟨#[]⟩) (e1 : allOf d 1 = ⟨#[]⟩) :
    Calls Try.prog 50 #[.pointer (some ⟨b, 0, none⟩)] w fun e w' => e = .returned (.tuple #[.pointer none, .int .i64 15]) ∧ Below b w w' := by
  have hb := lt_of_block h
  have R0 := fun w' (h' : D.Is b d w') => D.Read_any b d 0 w' h' hf
  have R1 := fun w' (h' : D.Is b d w') => D.Read_any b d 1 w' h' hf
  rw [r0, e0] at R0
  rw [r1, e1] at R1
  go_enter Try.func50, Try.ntmps50
  go_wp2_with fail
  go_loopw [5, 15] (fun f i wr => ∃ n : Int, 0 ≤ n ∧ n ≤ 2 ∧ f = .int .i64 (-1) ∧ i = .int .i64 n ∧ D.Turn b d w wr) (fun f i _ => (2 - intOf i).toNat)
  case atStart => exact ⟨0, by omega, by omega, rfl, rfl, (D.Turn.refl h).alloc _⟩
  case round =>
    obtain ⟨n, hn0, hn2, rfl, rfl, T⟩ := hrel
    obtain rfl | rfl | rfl : n = 0 ∨ n = 1 ∨ n = 2 := by omega
    · go_wp2_with fail
      refine (R0 _ T.is).mono ?_; rintro e w1 ⟨rfl, T1⟩
      have T2 := T.trans T1
      clear T1 T
      go_wp2_with fail
      refine (look_none _).mono ?_; rintro e w3 ⟨rfl, b3⟩
      have T3 : D.Turn b d w w3 := ⟨(b3.block _ (lt_of_block T2.is)).trans T2.is, fun c hc hne => (b3.block c (Nat.lt_of_lt_of_le hc T2.size)).trans (T2.others c hc hne), Nat.le_trans T2.size b3.size, fun X hX => (T2.below X hX).trans (b3.mono (Nat.le_of_lt (Nat.lt_of_le_of_lt hX (lt_of_block T2.is))))⟩
      have T4 := T3.alloc (.cells none_found 122)
      clear T2 T3 b3
      unfold none_found at T4 ⊢
      go_wp2_with fail
      go_roundw
      case rel => exact ⟨1, by omega, by omega, rfl, rfl, T4⟩
      case measure => simp [intOf]
    · go_wp2_with fail
      refine (R1 _ T.is).mono ?_; rintro e w1 ⟨rfl, T1⟩
      have T2 := T.trans T1
      clear T1 T
      go_wp2_with fail
      refine (look_none _).mono ?_; rintro e w3 ⟨rfl, b3⟩
      have T3 : D.Turn b d w w3 := ⟨(b3.block _ (lt_of_block T2.is)).trans T2.is, fun c hc hne => (b3.block c (Nat.lt_of_lt_of_le hc T2.size)).trans (T2.others c hc hne), Nat.le_trans T2.size b3.size, fun X hX => (T2.below X hX).trans (b3.mono (Nat.le_of_lt (Nat.lt_of_le_of_lt hX (lt_of_block T2.is))))⟩
      have T4 := T3.alloc (.cells none_found 122)
      clear T2 T3 b3
      unfold none_found at T4 ⊢
      go_wp2_with fail
      go_roundw
      case rel => exact ⟨2, by omega, by omega, rfl, rfl, T4⟩
      case measure => simp [intOf]
    · go_wp2_with fail
      go_ret2
      exact ⟨rfl, T.below b (Nat.le_refl _)⟩
end Go.Proofs.Ytejfdiiennnjjaa.J
namespace Go.Proofs.Ytejfdiiennnjjaa.J
open Go.RowKit Go.Proofs Go.Proofs.Ytejfdiiennnjjaa Go.Proofs.YtejfdiiennnjjaaW.PrintWords Go.Proofs.Ytejfdiiennnjjaa.D
set_option linter.unusedVariables false

/-- The blocks of JournalNobody. -/
structure Nj (w0 w : World) : Prop where
  no : No w0.heap.size w
  row : w.heap[w0.heap.size + 1]? = some (.cells #[.pointer none, .pointer (some ⟨w0.heap.size, 0, none⟩)] 87 (0, 0))
  below : Below w0.heap.size w0 w
theorem Nj.r0 {w0 w : World} (h : Nj w0 w) : w.cell? ⟨w0.heap.size + 1, 0, none⟩ = some (.pointer none) := by simp [World.cell?, h.row]
theorem Nj.r1 {w0 w : World} (h : Nj w0 w) : w.cell? ⟨w0.heap.size + 1, 1, none⟩ = some (.pointer (some ⟨w0.heap.size, 0, none⟩)) := by simp [World.cell?, h.row]
theorem Nj.later {w0 w w' : World} (h : Nj w0 w) (hb : Below w.heap.size w w') : Nj w0 w' :=
  ⟨(hb.block _ (lt_of_block h.no)).trans h.no, (hb.block _ (lt_of_block h.row)).trans h.row, h.below.trans (hb.mono (Nat.le_of_lt (lt_of_block h.no)))⟩
theorem Nj.drewN {w0 w : World} (h : Nj w0 w) (n : Nat) : Nj w0 (w.drewN n) := ⟨h.no, h.row, h.below.trans ⟨rfl, rfl, rfl, Nat.le_refl _, fun _ _ => rfl⟩⟩
theorem zero_all (i : Int) (h : i = 0 ∨ i = 1) : rdy zero i = 0 ∧ allOf zero i = ⟨#[]⟩ := by
  have hr : rdy zero i = 0 := by rcases h with rfl | rfl <;> rfl
  refine ⟨hr, ?_⟩
  unfold allOf
  rw [hr, if_neg (by simp)]
  rcases h with rfl | rfl <;> exact ByteArray.append_empty
set_option maxRecDepth 100000 in
set_option maxHeartbeats 8000000 in
theorem Nobody_any (cmd : ByteArray) (w : World) : Calls Try.prog 13 #[.string cmd] w fun e w' => e = .returned (.bool true) ∧ Below w.heap.size w w' := by
  go_enter Try.func13, Try.ntmps13
  go_wp2
  go_loopw [15] (fun i wr => ∃ m : Int, 0 ≤ m ∧ m ≤ 2 ∧ i = .int .i64 m ∧ Nj w wr) (fun i _ => (2 - intOf i).toNat)
  case atStart =>
    refine ⟨0, by omega, by omega, rfl, ?_, ?_, ?_⟩
    · unfold No; rw [Below.heap_alloc _ _ _ (by simp)]; exact heap_alloc_new _ _
    · have := heap_alloc_new (w.alloc (Obj.cells noCells 89)) (Obj.cells #[.pointer none, .pointer (some ⟨w.heap.size, 0, none⟩)] 87)
      rw [show (w.alloc (Obj.cells noCells 89)).heap.size = w.heap.size + 1 by simp] at this
      exact this
    · exact ((Below.refl _ _).alloc (Nat.le_refl _) _).alloc (by simp) _
  case round =>
    obtain ⟨m, hm0, hm2, rfl, N⟩ := hrel
    obtain rfl | rfl | rfl : m = 0 ∨ m = 1 ∨ m = 2 := by omega
    · have r0 := N.r0
      go_wp2_with fail
      refine (Add_nil cmd _).mono ?_; rintro e w' ⟨rfl, hw⟩; replace hw := hw.symm; subst hw
      go_wp2_with fail
      refine (Turn_nil cmd _).mono ?_; rintro e w' ⟨rfl, hw⟩; replace hw := hw.symm; subst hw
      go_wp2_with fail
      refine (State_nil _).mono ?_; rintro e w' ⟨rfl, hw⟩; replace hw := hw.symm; subst hw
      go_wp2_with fail
      refine (Commands_nil _).mono ?_; rintro e w' ⟨rfl, hw⟩; replace hw := hw.symm; subst hw
      go_wp2_with fail
      refine (Seq_nil _).mono ?_; rintro e w' ⟨rfl, hw⟩; replace hw := hw.symm; subst hw
      go_wp2_with fail
      refine (Room_nil _).mono ?_; rintro e w' ⟨rfl, hw⟩; replace hw := hw.symm; subst hw
      go_wp2
      go_roundw
      case rel => exact ⟨1, by omega, by omega, rfl, N⟩
      case measure => simp [intOf]
    · have r1 := N.r1
      go_wp2_with fail
      refine (Add_no cmd N.no).mono ?_; rintro e w' ⟨rfl, hw⟩; replace hw := hw.symm; subst hw
      go_wp2_with fail
      refine (Turn_no cmd N.no).mono ?_; rintro e w' ⟨rfl, hw⟩; replace hw := hw.symm; subst hw
      go_wp2_with fail
      refine (State_no N.no).mono ?_; rintro e w' ⟨rfl, hw⟩; replace hw := hw.symm; subst hw
      go_wp2_with fail
      refine (Commands_no N.no).mono ?_; rintro e w2 ⟨A2, c2, rfl, b2⟩
      have N2 := N.later b2
      clear b2 N r1
      go_wp2_with fail
      refine (Seq_no N2.no).mono ?_; rintro e w3 ⟨rfl, q3, rfl⟩
      have N3 := N2.drewN q3
      go_wp2_with fail
      refine (Room_no N3.no).mono ?_; rintro e w4 ⟨rfl, rfl⟩
      go_wp2
      go_roundw
      case rel => exact ⟨2, by omega, by omega, rfl, N3⟩
      case measure => simp [intOf]
    · go_wp2_with fail
      refine (D.New_any _).mono ?_; rintro e w1 ⟨rfl, h1, b1⟩
      have B1 := N.below.trans (b1.mono (Nat.le_of_lt (lt_of_block N.no)))
      have hlt := lt_of_block N.no
      go_wp2_with fail
      refine (Open_none _ zero _ h1 zero_fits (zero_all 0 (.inl rfl)).1 (zero_all 1 (.inr rfl)).1 (zero_all 0 (.inl rfl)).2 (zero_all 1 (.inr rfl)).2).mono ?_; rintro e w2 ⟨rfl, b2⟩
      have B2 := B1.trans (b2.mono (Nat.le_of_lt hlt))
      have hs := B2.size
      clear b1 b2 h1 B1
      go_wp2_with fail
      refine (Open_nil _).mono ?_; rintro e w3 ⟨rfl, b3⟩
      have B3 := B2.trans (b3.mono hs)
      clear b3 B2
      go_wp2_with fail
      refine (Format_nil _ _).mono ?_; rintro e w4 ⟨rfl, b4⟩
      have B4 := B3.trans (b4.mono B3.size)
      clear b4 B3
      go_wp2_with fail
      refine (awake_any _).mono ?_; rintro e w5 ⟨rfl, b5⟩
      go_wp2
      go_ret
      exact ⟨rfl, B4.trans (b5.mono B4.size)⟩
end Go.Proofs.Ytejfdiiennnjjaa.J
