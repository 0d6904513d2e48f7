/- What 'shows' shows: both disks have the same. -/
import Derived.Test.YtejfdiiennnjjaaRg
import Derived.LoopTactic
namespace Go.Proofs.Ytejfdiiennnjjaa.R
open Go.RowKit Go.Proofs Go.Proofs.Ytejfdiiennnjjaa Go.Proofs.Ytejfdiiennnjjaa.D
set_option linter.unusedVariables false

/-- What its loop keeps. -/
structure SInv (b : Nat) (d : Dk) (w0 w : World) : Prop where
  dk : D.Turn b d w0 w
  bx : Is w0.heap.size (toR d) w
theorem SInv.next {b : Nat} {d : Dk} {w0 w w' : World} (hb : b < w0.heap.size) (h : SInv b d w0 w) (T : D.Turn b d w w') : SInv b d w0 w' :=
  ⟨h.dk.trans T, (T.others _ (lt_of_block h.bx) (by omega)).trans h.bx⟩
theorem SInv.alloc {b : Nat} {d : Dk} {w0 w : World} (h : SInv b d w0 w) (o : Obj) : SInv b d w0 (w.alloc o) :=
  ⟨h.dk.alloc o, by have := h.bx; unfold Is at this ⊢; rw [Below.heap_alloc _ _ _ (lt_of_block this)]; exact this⟩
theorem SInv.drewN {b : Nat} {d : Dk} {w0 w : World} (h : SInv b d w0 w) (n : Nat) : SInv b d w0 (w.drewN n) := ⟨h.dk.drewN n, h.bx⟩
theorem cell_a {b : Nat} {d : Dk} {w : World} (h : Is b (toR d) w) (S : ByteArray) (P : Int) (i : Int) (hS : d.s i ++ d.l i = S) (hP : ((d.s i).size : Int) = P) :
    (i = 0 → w.cell? ⟨b, 0, none⟩ = some (.string S) ∧ w.cell? ⟨b, 1, none⟩ = some (.int .i64 P)) ∧ (i = 1 → w.cell? ⟨b, 2, none⟩ = some (.string S) ∧ w.cell? ⟨b, 3, none⟩ = some (.int .i64 P)) ∧
    (i = 2 → w.cell? ⟨b, 4, none⟩ = some (.string S) ∧ w.cell? ⟨b, 5, none⟩ = some (.int .i64 P)) ∧ (i = 3 → w.cell? ⟨b, 6, none⟩ = some (.string S) ∧ w.cell? ⟨b, 7, none⟩ = some (.int .i64 P)) := by
  subst hS hP
  exact ⟨fun e => by subst e; exact ⟨h.c0, h.c1⟩, fun e => by subst e; exact ⟨h.c2, h.c3⟩, fun e => by subst e; exact ⟨h.c4, h.c5⟩, fun e => by subst e; exact ⟨h.c6, h.c7⟩⟩
set_option maxRecDepth 100000 in
set_option maxHeartbeats 8000000 in
theorem shows_any (b : Nat) (d : Dk) (w : World) (hD : D.Is b d w) (hm : d.made = true) (hf : d.Fits) : Calls Try.prog 40 #[.pointer (some ⟨b, 0, none⟩), .agg (toR d).cells] w fun e w' => e = .returned (.bool true) ∧ D.Turn b d w w' := by
  have hb := lt_of_block hD
  have I0 : SInv b d w (w.alloc (.cells (toR d).cells 69)) := ⟨(D.Turn.refl hD).alloc _, heap_alloc_new _ _⟩
  go_enter Try.func40, Try.ntmps40
  go_wp2_with fail
  go_loopw [5] (fun i wr => ∃ n : Int, -1 ≤ n ∧ n ≤ 5 ∧ i = .int .i64 n ∧ SInv b d w wr) (fun i _ => (5 - intOf i).toNat)
  case atStart => exact ⟨-1, by omega, by omega, rfl, I0⟩
  case round =>
    obtain ⟨n, hn0, hn5, rfl, I⟩ := hrel
    by_cases h5 : n ≤ 4
    · by_cases hr : rdy d n = 0
      · obtain ⟨_, _, hn⟩ := D.rdy_file hr
        have R := D.Read_any b d n wr I.dk.is hf
        have L := fun w' (h : D.Is b d w') => D.Len_any b d n w' h hf
        have C := fun w' => Check_any (toR d) n w'
        have Q := fun w' (h : D.Is b d w') => D.Late_ok b d n w' h hr
        have K := fun w' (h : Is w.heap.size (toR d) w') => cell_a h _ _ n rfl rfl
        have hS : allOf d n = d.s n ++ d.l n := by unfold allOf; rw [if_neg (not_not_intro hr)]
        have hL : lenOf d n = (d.s n ++ d.l n).size := by unfold lenOf Dk.len; rw [if_neg (not_not_intro hr), ByteArray.size_append]
        have hT : (((d.l n).size : Nat) : Int) = ((d.s n ++ d.l n).size : Nat) - ((d.s n).size : Int) := by rw [ByteArray.size_append]; omega
        have hX := D.len_max hf n
        have hM : (d.s n ++ d.l n).size ≤ 1048576 := by rw [ByteArray.size_append]; unfold Dk.len at hX; exact hX
        rw [hr, hS] at R
        rw [hr, hL] at L
        rw [toR_chk hm, hr] at C
        rw [hT] at Q
        have hP : (d.s n).size ≤ (d.s n ++ d.l n).size := by rw [ByteArray.size_append]; omega
        clear hS hL hT hX hr
        generalize d.s n ++ d.l n = S at *
        generalize (d.s n).size = P at *
        obtain rfl | rfl | rfl | rfl := hn
        · have K0 := fun w' (h : Is w.heap.size (toR d) w') => (K w' h).1 rfl
          clear K
          go_wp2_with fail
          refine R.mono ?_; rintro e w1 ⟨rfl, T1⟩
          have I1 := I.next hb T1
          clear T1 R I
          go_wp2_with fail
          refine (L _ I1.dk.is).mono ?_; rintro e w2 ⟨rfl, T2⟩
          have I2 := I1.next hb T2
          clear T2 I1 L
          have c0 := I2.bx.c0
          have c1 := I2.bx.c1
          have c2 := I2.bx.c2
          have c3 := I2.bx.c3
          have c4 := I2.bx.c4
          have c5 := I2.bx.c5
          have c6 := I2.bx.c6
          have c7 := I2.bx.c7
          have c8 := I2.bx.c8
          have c9 := I2.bx.c9
          go_wp2_with fail
          refine (C _).mono ?_; rintro e w3 ⟨rfl, e3⟩
          have I3 := I2.alloc (.cells (toR d).cells 69)
          rw [← e3] at I3
          clear e3 I2 c0 c1 c2 c3 c4 c5 c6 c7 c8 c9 C
          obtain ⟨x, y⟩ := K0 w3 I3.bx
          have Q3 := fun nn => Q (w3.drewN nn) (show D.Is b d (w3.drewN nn) from I3.dk.is)
          clear K0 Q
          go_wp2_with fail
          go_quiet (first | (go_at_call 42; refine Calls.quiet_of_same (Q3 _)))
          go_wp2_with fail
          go_roundw
          case rel => exact ⟨1, by omega, by omega, rfl, I3.drewN _⟩
          case measure => simp [intOf]
        · have K0 := fun w' (h : Is w.heap.size (toR d) w') => (K w' h).2.1 rfl
          clear K
          go_wp2_with fail
          refine R.mono ?_; rintro e w1 ⟨rfl, T1⟩
          have I1 := I.next hb T1
          clear T1 R I
          go_wp2_with fail
          refine (L _ I1.dk.is).mono ?_; rintro e w2 ⟨rfl, T2⟩
          have I2 := I1.next hb T2
          clear T2 I1 L
          have c0 := I2.bx.c0
          have c1 := I2.bx.c1
          have c2 := I2.bx.c2
          have c3 := I2.bx.c3
          have c4 := I2.bx.c4
          have c5 := I2.bx.c5
          have c6 := I2.bx.c6
          have c7 := I2.bx.c7
          have c8 := I2.bx.c8
          have c9 := I2.bx.c9
          go_wp2_with fail
          refine (C _).mono ?_; rintro e w3 ⟨rfl, e3⟩
          have I3 := I2.alloc (.cells (toR d).cells 69)
          rw [← e3] at I3
          clear e3 I2 c0 c1 c2 c3 c4 c5 c6 c7 c8 c9 C
          obtain ⟨x, y⟩ := K0 w3 I3.bx
          have Q3 := fun nn => Q (w3.drewN nn) (show D.Is b d (w3.drewN nn) from I3.dk.is)
          clear K0 Q
          go_wp2_with fail
          go_quiet (first | (go_at_call 42; refine Calls.quiet_of_same (Q3 _)))
          go_wp2_with fail
          go_roundw
          case rel => exact ⟨2, by omega, by omega, rfl, I3.drewN _⟩
          case measure => simp [intOf]
        · have K0 := fun w' (h : Is w.heap.size (toR d) w') => (K w' h).2.2.1 rfl
          clear K
          go_wp2_with fail
          refine R.mono ?_; rintro e w1 ⟨rfl, T1⟩
          have I1 := I.next hb T1
          clear T1 R I
          go_wp2_with fail
          refine (L _ I1.dk.is).mono ?_; rintro e w2 ⟨rfl, T2⟩
          have I2 := I1.next hb T2
          clear T2 I1 L
          have c0 := I2.bx.c0
          have c1 := I2.bx.c1
          have c2 := I2.bx.c2
          have c3 := I2.bx.c3
          have c4 := I2.bx.c4
          have c5 := I2.bx.c5
          have c6 := I2.bx.c6
          have c7 := I2.bx.c7
          have c8 := I2.bx.c8
          have c9 := I2.bx.c9
          go_wp2_with fail
          refine (C _).mono ?_; rintro e w3 ⟨rfl, e3⟩
          have I3 := I2.alloc (.cells (toR d).cells 69)
          rw [← e3] at I3
          clear e3 I2 c0 c1 c2 c3 c4 c5 c6 c7 c8 c9 C
          obtain ⟨x, y⟩ := K0 w3 I3.bx
          have Q3 := fun nn => Q (w3.drewN nn) (show D.Is b d (w3.drewN nn) from I3.dk.is)
          clear K0 Q
          go_wp2_with fail
          go_quiet (first | (go_at_call 42; refine Calls.quiet_of_same (Q3 _)))
          go_wp2_with fail
          go_roundw
          case rel => exact ⟨3, by omega, by omega, rfl, I3.drewN _⟩
          case measure => simp [intOf]
        · have K0 := fun w' (h : Is w.heap.size (toR d) w') => (K w' h).2.2.2 rfl
          clear K
          go_wp2_with fail
          refine R.mono ?_; rintro e w1 ⟨rfl, T1⟩
          have I1 := I.next hb T1
          clear T1 R I
          go_wp2_with fail
          refine (L _ I1.dk.is).mono ?_; rintro e w2 ⟨rfl, T2⟩
          have I2 := I1.next hb T2
          clear T2 I1 L
          have c0 := I2.bx.c0
          have c1 := I2.bx.c1
          have c2 := I2.bx.c2
          have c3 := I2.bx.c3
          have c4 := I2.bx.c4
          have c5 := I2.bx.c5
          have c6 := I2.bx.c6
          have c7 := I2.bx.c7
          have c8 := I2.bx.c8
          have c9 := I2.bx.c9
          go_wp2_with fail
          refine (C _).mono ?_; rintro e w3 ⟨rfl, e3⟩
          have I3 := I2.alloc (.cells (toR d).cells 69)
          rw [← e3] at I3
          clear e3 I2 c0 c1 c2 c3 c4 c5 c6 c7 c8 c9 C
          obtain ⟨x, y⟩ := K0 w3 I3.bx
          have Q3 := fun nn => Q (w3.drewN nn) (show D.Is b d (w3.drewN nn) from I3.dk.is)
          clear K0 Q
          go_wp2_with fail
          go_quiet (first | (go_at_call 42; refine Calls.quiet_of_same (Q3 _)))
          go_wp2_with fail
          go_roundw
          case rel => exact ⟨4, by omega, by omega, rfl, I3.drewN _⟩
          case measure => simp [intOf]
      · have R := D.Read_any b d n wr I.dk.is hf
        have L := fun w' (h : D.Is b d w') => D.Len_any b d n w' h hf
        have C := fun w' => Check_any (toR d) n w'
        have Q := fun w' (h : D.Is b d w') => D.Late_bad b d n w' h hr
        have hS : allOf d n = ⟨#[]⟩ := by unfold allOf; rw [if_pos hr]
        have hL : lenOf d n = 0 := by unfold lenOf; rw [if_pos hr]
        rw [hS] at R
        rw [hL] at L
        rw [toR_chk hm] at C
        clear hS hL
        generalize rdy d n = g at *
        go_wp2_with fail
        refine R.mono ?_; rintro e w1 ⟨rfl, T1⟩
        have I1 := I.next hb T1
        clear T1 R I
        go_wp2_with fail
        refine (L _ I1.dk.is).mono ?_; rintro e w2 ⟨rfl, T2⟩
        have I2 := I1.next hb T2
        clear T2 I1 L
        have c0 := I2.bx.c0
        have c1 := I2.bx.c1
        have c2 := I2.bx.c2
        have c3 := I2.bx.c3
        have c4 := I2.bx.c4
        have c5 := I2.bx.c5
        have c6 := I2.bx.c6
        have c7 := I2.bx.c7
        have c8 := I2.bx.c8
        have c9 := I2.bx.c9
        go_wp2_with fail
        refine (C _).mono ?_; rintro e w3 ⟨rfl, e3⟩
        have I3 := I2.alloc (.cells (toR d).cells 69)
        rw [← e3] at I3
        clear e3 I2 c0 c1 c2 c3 c4 c5 c6 c7 c8 c9 C
        have Q3 := Q w3 I3.dk.is
        have Q4 := fun nn => Q (w3.drewN nn) (show D.Is b d (w3.drewN nn) from I3.dk.is)
        clear Q
        have hg : (g == 0) = false := by simpa using hr
        go_wp2_with fail
        go_quiet (fail)
        go_wp2_with fail
        refine (Q4 _).mono ?_; rintro e w4 ⟨rfl, rfl⟩
        go_wp2_with fail
        go_roundw
        case rel => exact ⟨n + 1, by omega, by omega, by go_num, I3.drewN _⟩
        case measure => simp [intOf]; omega
    · obtain rfl : n = 5 := by omega
      go_wp2
      go_ret
      exact ⟨rfl, I.dk⟩
end Go.Proofs.Ytejfdiiennnjjaa.R
