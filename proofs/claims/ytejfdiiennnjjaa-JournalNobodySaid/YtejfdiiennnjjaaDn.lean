/- Package disk: Append and Sync. -/
import Derived.Test.YtejfdiiennnjjaaDm
import Derived.RegionTactic
import Derived.ChangeAlike
namespace Go.Proofs.Ytejfdiiennnjjaa.D
open Go.RowKit Go.Proofs Go.Proofs.Ytejfdiiennnjjaa
set_option linter.unusedVariables false

def Dk.len (d : Dk) (i : Int) : Nat := (d.s i).size + (d.l i).size
theorem useD_s (d : Dk) (i : Int) : (useD d).s i = d.s i := by unfold useD; (repeat' split) <;> rfl
theorem useD_l (d : Dk) (i : Int) : (useD d).l i = d.l i := by unfold useD; (repeat' split) <;> rfl
theorem len_max {d : Dk} (hf : d.Fits) (i : Int) : d.len i ≤ 1048576 := by
  obtain ⟨f0, f1, f2, f3, _, _⟩ := hf
  unfold Dk.len Dk.s Dk.l
  split
  · exact f0
  · split
    · exact f1
    · split
      · exact f2
      · exact f3

set_option maxRecDepth 100000 in
theorem Append_nil (i : Int) (s : ByteArray) (w : World) : Calls Try.prog 32 #[.pointer none, .int .i64 i, .string s] w fun e w' => e = .returned (.int .i64 3) ∧ w' = w := by
  go_enter Try.func32, Try.ntmps32
  go_wp2_with fail
  refine (ready_nil i w).mono ?_; rintro e w' ⟨rfl, rfl⟩
  go_wp2
  go_ret
  exact ⟨rfl, rfl⟩
set_option maxRecDepth 100000 in
theorem Append_bad (b : Nat) (d : Dk) (i : Int) (s : ByteArray) (w : World) (h : Is b d w) (hr : ¬ rdy d i = 0) : Calls Try.prog 32 #[.pointer (some ⟨b, 0, none⟩), .int .i64 i, .string s] w fun e w' => e = .returned (.int .i64 (rdy d i)) ∧ w' = w := by
  go_enter Try.func32, Try.ntmps32
  go_wp2_with fail
  refine (ready_any b d i w h).mono ?_; rintro e w' ⟨rfl, rfl⟩
  go_wp2
  go_ret
  exact ⟨rfl, rfl⟩
set_option maxRecDepth 100000 in
theorem Append_full (b : Nat) (d : Dk) (i : Int) (s : ByteArray) (w : World) (h : Is b d w) (hf : d.Fits) (hr : rdy d i = 0) (hs : 1048576 < d.len i + s.size) : Calls Try.prog 32 #[.pointer (some ⟨b, 0, none⟩), .int .i64 i, .string s] w fun e w' => e = .returned (.int .i64 18) ∧ ∃ n, w' = w.drewN n := by
  have R := ready_any b d i w h
  rw [hr] at R
  have L := Len_ok b d i w h hf hr
  have hm := len_max hf i
  change Calls _ _ _ _ (fun e w' => e = .returned (.tuple #[.int .i64 (d.len i : Nat), .int .i64 0]) ∧ ∃ n, w' = w.drewN n) at L
  generalize d.len i = m at *
  have h1 : (1048576 : Int) - (m : Int) < (s.size : Int) := by omega
  go_enter Try.func32, Try.ntmps32
  go_wp2_with fail
  refine R.mono ?_; rintro e w' ⟨rfl, rfl⟩
  go_wp2_with fail
  refine L.mono ?_; rintro e w' ⟨rfl, nq, rfl⟩
  go_wp2
  go_ret
  exact ⟨rfl, _, rfl⟩
set_option maxRecDepth 100000 in
theorem Append_dead (b : Nat) (d : Dk) (i : Int) (s : ByteArray) (w : World) (h : Is b d w) (hf : d.Fits) (hr : rdy d i = 0) (hs : d.len i + s.size ≤ 1048576) (h0 : d.left = 0) : Calls Try.prog 32 #[.pointer (some ⟨b, 0, none⟩), .int .i64 i, .string s] w fun e w' => e = .returned (.int .i64 13) ∧ Turn b (useD d) w w' := by
  have R := ready_any b d i w h
  rw [hr] at R
  have L := Len_ok b d i w h hf hr
  have hm := len_max hf i
  change Calls _ _ _ _ (fun e w' => e = .returned (.tuple #[.int .i64 (d.len i : Nat), .int .i64 0]) ∧ ∃ n, w' = w.drewN n) at L
  generalize d.len i = m at *
  have h1 : ¬ (1048576 : Int) - (m : Int) < (s.size : Int) := by omega
  go_enter Try.func32, Try.ntmps32
  go_wp2_with fail
  refine R.mono ?_; rintro e w' ⟨rfl, rfl⟩
  go_wp2_with fail
  refine L.mono ?_; rintro e w' ⟨rfl, nq, rfl⟩
  go_wp2_with fail
  have U := use_any b d _ ((Turn.refl h).drewN nq).is hf.2.2.2.2.1
  rw [show useN d = 13 by unfold useN; rw [if_pos h0]] at U
  refine U.mono ?_; rintro e w1 ⟨rfl, T⟩
  go_wp2
  go_ret
  exact ⟨rfl, ((Turn.refl h).drewN nq).trans T⟩
set_option maxRecDepth 100000 in
theorem Append_ok (b : Nat) (d : Dk) (i : Int) (s : ByteArray) (w : World) (h : Is b d w) (hf : d.Fits) (hr : rdy d i = 0) (hs : d.len i + s.size ≤ 1048576) (h0 : ¬ d.left = 0) : Calls Try.prog 32 #[.pointer (some ⟨b, 0, none⟩), .int .i64 i, .string s] w fun e w' => e = .returned (.int .i64 0) ∧ Turn b ((useD d).setL i (d.l i ++ s)) w w' := by
  have R := ready_any b d i w h
  rw [hr] at R
  have L := Len_ok b d i w h hf hr
  have hm := len_max hf i
  have hl : (d.l i).size ≤ d.len i := by unfold Dk.len; omega
  change Calls _ _ _ _ (fun e w' => e = .returned (.tuple #[.int .i64 (d.len i : Nat), .int .i64 0]) ∧ ∃ n, w' = w.drewN n) at L
  generalize d.len i = m at *
  have h1 : ¬ (1048576 : Int) - (m : Int) < (s.size : Int) := by omega
  have hz : ¬ 9223372036854775807 < (d.l i).size + s.size := by omega
  rw [← useD_l] at hz ⊢
  have U : ∀ nq, _ := fun nq => use_any b d _ ((Turn.refl h).drewN nq).is hf.2.2.2.2.1
  rw [show useN d = 0 by unfold useN; rw [if_neg h0]] at U
  generalize useD d = d' at *
  obtain ⟨_, _, rfl | rfl | rfl | rfl⟩ := rdy_file hr
  · change ¬ 9223372036854775807 < d'.l0.size + s.size at hz
    go_enter Try.func32, Try.ntmps32
    go_wp2_with fail
    refine R.mono ?_; rintro e w' ⟨rfl, rfl⟩
    go_wp2_with fail
    refine L.mono ?_; rintro e w' ⟨rfl, nq, rfl⟩
    go_wp2_with fail
    refine (U nq).mono ?_; rintro e w1 ⟨rfl, T⟩
    have T1 := ((Turn.refl h).drewN nq).trans T
    have c := T.is.c1
    have f := T.is.f1
    have r := T.is.p1 (d'.l0 ++ s)
    clear T U L R
    go_wp2_with fail
    go_region
    go_wp2
    go_ret
    exact ⟨rfl, by first | exact T1.put r | exact (T1.put r).drew | exact (T1.put r).drewN _⟩
  · change ¬ 9223372036854775807 < d'.l1.size + s.size at hz
    go_enter Try.func32, Try.ntmps32
    go_wp2_with fail
    refine R.mono ?_; rintro e w' ⟨rfl, rfl⟩
    go_wp2_with fail
    refine L.mono ?_; rintro e w' ⟨rfl, nq, rfl⟩
    go_wp2_with fail
    refine (U nq).mono ?_; rintro e w1 ⟨rfl, T⟩
    have T1 := ((Turn.refl h).drewN nq).trans T
    have c := T.is.c3
    have f := T.is.f3
    have r := T.is.p3 (d'.l1 ++ s)
    clear T U L R
    go_wp2_with fail
    go_region
    go_wp2
    go_ret
    exact ⟨rfl, by first | exact T1.put r | exact (T1.put r).drew | exact (T1.put r).drewN _⟩
  · change ¬ 9223372036854775807 < d'.l2.size + s.size at hz
    go_enter Try.func32, Try.ntmps32
    go_wp2_with fail
    refine R.mono ?_; rintro e w' ⟨rfl, rfl⟩
    go_wp2_with fail
    refine L.mono ?_; rintro e w' ⟨rfl, nq, rfl⟩
    go_wp2_with fail
    refine (U nq).mono ?_; rintro e w1 ⟨rfl, T⟩
    have T1 := ((Turn.refl h).drewN nq).trans T
    have c := T.is.c5
    have f := T.is.f5
    have r := T.is.p5 (d'.l2 ++ s)
    clear T U L R
    go_wp2_with fail
    go_region
    go_wp2
    go_ret
    exact ⟨rfl, by first | exact T1.put r | exact (T1.put r).drew | exact (T1.put r).drewN _⟩
  · change ¬ 9223372036854775807 < d'.l3.size + s.size at hz
    go_enter Try.func32, Try.ntmps32
    go_wp2_with fail
    refine R.mono ?_; rintro e w' ⟨rfl, rfl⟩
    go_wp2_with fail
    refine L.mono ?_; rintro e w' ⟨rfl, nq, rfl⟩
    go_wp2_with fail
    refine (U nq).mono ?_; rintro e w1 ⟨rfl, T⟩
    have T1 := ((Turn.refl h).drewN nq).trans T
    have c := T.is.c7
    have f := T.is.f7
    have r := T.is.p7 (d'.l3 ++ s)
    clear T U L R
    go_wp2_with fail
    go_region
    go_wp2
    go_ret
    exact ⟨rfl, by first | exact T1.put r | exact (T1.put r).drew | exact (T1.put r).drewN _⟩

set_option maxRecDepth 100000 in
theorem Sync_nil (i : Int) (w : World) : Calls Try.prog 36 #[.pointer none, .int .i64 i] w fun e w' => e = .returned (.int .i64 3) ∧ w' = w := by
  go_enter Try.func36, Try.ntmps36
  go_wp2_with fail
  refine (ready_nil i w).mono ?_; rintro e w' ⟨rfl, rfl⟩
  go_wp2
  go_ret
  exact ⟨rfl, rfl⟩
set_option maxRecDepth 100000 in
theorem Sync_bad (b : Nat) (d : Dk) (i : Int) (w : World) (h : Is b d w) (hr : ¬ rdy d i = 0) : Calls Try.prog 36 #[.pointer (some ⟨b, 0, none⟩), .int .i64 i] w fun e w' => e = .returned (.int .i64 (rdy d i)) ∧ w' = w := by
  go_enter Try.func36, Try.ntmps36
  go_wp2_with fail
  refine (ready_any b d i w h).mono ?_; rintro e w' ⟨rfl, rfl⟩
  go_wp2
  go_ret
  exact ⟨rfl, rfl⟩
set_option maxRecDepth 100000 in
theorem Sync_dead (b : Nat) (d : Dk) (i : Int) (w : World) (h : Is b d w) (hf : d.Fits) (hr : rdy d i = 0) (h0 : d.left = 0) : Calls Try.prog 36 #[.pointer (some ⟨b, 0, none⟩), .int .i64 i] w fun e w' => e = .returned (.int .i64 13) ∧ Turn b (useD d) w w' := by
  have R := ready_any b d i w h
  rw [hr] at R
  go_enter Try.func36, Try.ntmps36
  go_wp2_with fail
  refine R.mono ?_; rintro e w' ⟨rfl, rfl⟩
  go_wp2_with fail
  have U := use_any b d _ h hf.2.2.2.2.1
  rw [show useN d = 13 by unfold useN; rw [if_pos h0]] at U
  refine U.mono ?_; rintro e w1 ⟨rfl, T⟩
  go_wp2
  go_ret
  exact ⟨rfl, T⟩
set_option maxRecDepth 100000 in
theorem Sync_ok (b : Nat) (d : Dk) (i : Int) (w : World) (h : Is b d w) (hf : d.Fits) (hr : rdy d i = 0) (h0 : ¬ d.left = 0) : Calls Try.prog 36 #[.pointer (some ⟨b, 0, none⟩), .int .i64 i] w fun e w' => e = .returned (.int .i64 0) ∧ Turn b (((useD d).setS i (d.s i ++ d.l i)).setL i ⟨#[]⟩) w w' := by
  have R := ready_any b d i w h
  rw [hr] at R
  have hm := len_max hf i
  have hz : ¬ 9223372036854775807 < (d.s i).size + (d.l i).size := by unfold Dk.len at hm; omega
  rw [← useD_l, ← useD_s] at hz ⊢
  have U := use_any b d _ h hf.2.2.2.2.1
  rw [show useN d = 0 by unfold useN; rw [if_neg h0]] at U
  generalize useD d = d' at *
  obtain ⟨_, _, rfl | rfl | rfl | rfl⟩ := rdy_file hr
  · change ¬ 9223372036854775807 < d'.s0.size + d'.l0.size at hz
    go_enter Try.func36, Try.ntmps36
    go_wp2_with fail
    refine R.mono ?_; rintro e w' ⟨rfl, rfl⟩
    go_wp2_with fail
    refine U.mono ?_; rintro e w1 ⟨rfl, T⟩
    have c := T.is.c0
    have c2 := T.is.c1
    have f := T.is.f0
    have f2 := T.is.f1
    have r := T.is.p0 (d'.s0 ++ d'.l0)
    have f3 := r.f1
    have c3 := r.c1
    have r2 := r.p1 ⟨#[]⟩
    clear U R
    go_wp2_with fail
    go_region
    all_goals (go_wp2; go_ret; exact ⟨rfl, by first | exact (T.put r).put r2 | exact ((T.put r).put r2).drew | exact ((T.put r).put r2).drewN _⟩)
  · change ¬ 9223372036854775807 < d'.s1.size + d'.l1.size at hz
    go_enter Try.func36, Try.ntmps36
    go_wp2_with fail
    refine R.mono ?_; rintro e w' ⟨rfl, rfl⟩
    go_wp2_with fail
    refine U.mono ?_; rintro e w1 ⟨rfl, T⟩
    have c := T.is.c2
    have c2 := T.is.c3
    have f := T.is.f2
    have f2 := T.is.f3
    have r := T.is.p2 (d'.s1 ++ d'.l1)
    have f3 := r.f3
    have c3 := r.c3
    have r2 := r.p3 ⟨#[]⟩
    clear U R
    go_wp2_with fail
    go_region
    all_goals (go_wp2; go_ret; exact ⟨rfl, by first | exact (T.put r).put r2 | exact ((T.put r).put r2).drew | exact ((T.put r).put r2).drewN _⟩)
  · change ¬ 9223372036854775807 < d'.s2.size + d'.l2.size at hz
    go_enter Try.func36, Try.ntmps36
    go_wp2_with fail
    refine R.mono ?_; rintro e w' ⟨rfl, rfl⟩
    go_wp2_with fail
    refine U.mono ?_; rintro e w1 ⟨rfl, T⟩
    have c := T.is.c4
    have c2 := T.is.c5
    have f := T.is.f4
    have f2 := T.is.f5
    have r := T.is.p4 (d'.s2 ++ d'.l2)
    have f3 := r.f5
    have c3 := r.c5
    have r2 := r.p5 ⟨#[]⟩
    clear U R
    go_wp2_with fail
    go_region
    all_goals (go_wp2; go_ret; exact ⟨rfl, by first | exact (T.put r).put r2 | exact ((T.put r).put r2).drew | exact ((T.put r).put r2).drewN _⟩)
  · change ¬ 9223372036854775807 < d'.s3.size + d'.l3.size at hz
    go_enter Try.func36, Try.ntmps36
    go_wp2_with fail
    refine R.mono ?_; rintro e w' ⟨rfl, rfl⟩
    go_wp2_with fail
    refine U.mono ?_; rintro e w1 ⟨rfl, T⟩
    have c := T.is.c6
    have c2 := T.is.c7
    have f := T.is.f6
    have f2 := T.is.f7
    have r := T.is.p6 (d'.s3 ++ d'.l3)
    have f3 := r.f7
    have c3 := r.c7
    have r2 := r.p7 ⟨#[]⟩
    clear U R
    go_wp2_with fail
    go_region
    all_goals (go_wp2; go_ret; exact ⟨rfl, by first | exact (T.put r).put r2 | exact ((T.put r).put r2).drew | exact ((T.put r).put r2).drewN _⟩)

end Go.Proofs.Ytejfdiiennnjjaa.D
