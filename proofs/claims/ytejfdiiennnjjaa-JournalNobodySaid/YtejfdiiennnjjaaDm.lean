/- Package disk: Len, Read, Late, Append, Sync, Cut, Limit, Crash. -/
import Derived.Test.YtejfdiiennnjjaaDk
namespace Go.Proofs.Ytejfdiiennnjjaa.D
open Go.RowKit Go.Proofs Go.Proofs.Ytejfdiiennnjjaa
set_option linter.unusedVariables false

def Dk.s (d : Dk) (i : Int) : ByteArray := if i = 0 then d.s0 else if i = 1 then d.s1 else if i = 2 then d.s2 else d.s3
def Dk.l (d : Dk) (i : Int) : ByteArray := if i = 0 then d.l0 else if i = 1 then d.l1 else if i = 2 then d.l2 else d.l3
def Dk.setS (d : Dk) (i : Int) (x : ByteArray) : Dk := if i = 0 then { d with s0 := x } else if i = 1 then { d with s1 := x } else if i = 2 then { d with s2 := x } else { d with s3 := x }
def Dk.setL (d : Dk) (i : Int) (x : ByteArray) : Dk := if i = 0 then { d with l0 := x } else if i = 1 then { d with l1 := x } else if i = 2 then { d with l2 := x } else { d with l3 := x }
/-- No file has too many bytes; the limit is a number of the language. -/
def Dk.Fits (d : Dk) : Prop := d.s0.size + d.l0.size ≤ 1048576 ∧ d.s1.size + d.l1.size ≤ 1048576 ∧ d.s2.size + d.l2.size ≤ 1048576 ∧ d.s3.size + d.l3.size ≤ 1048576 ∧ d.left ≤ 9223372036854775807 ∧ -9223372036854775808 ≤ d.left

theorem rdy_file {d : Dk} {i : Int} (h : rdy d i = 0) : d.made = true ∧ d.dead = false ∧ (i = 0 ∨ i = 1 ∨ i = 2 ∨ i = 3) := by
  unfold rdy at h
  by_cases h1 : d.made = false
  · rw [if_pos h1] at h; omega
  · rw [if_neg h1] at h
    by_cases h2 : d.dead = true
    · rw [if_pos h2] at h; omega
    · rw [if_neg h2] at h
      refine ⟨by simpa using h1, by simpa using h2, ?_⟩
      by_cases h3 : i < 0 ∨ 4 ≤ i
      · rw [if_pos h3] at h; omega
      · omega

set_option maxRecDepth 100000 in
theorem Len_nil (i : Int) (w : World) : Calls Try.prog 33 #[.pointer none, .int .i64 i] w fun e w' => e = .returned (.tuple #[.int .i64 0, .int .i64 3]) ∧ w' = w := by
  go_enter Try.func33, Try.ntmps33
  go_wp2_with fail
  refine (ready_nil i w).mono ?_; rintro e w' ⟨rfl, rfl⟩
  go_wp2
  go_ret2
  exact ⟨rfl, rfl⟩
set_option maxRecDepth 100000 in
theorem Len_bad (b : Nat) (d : Dk) (i : Int) (w : World) (h : Is b d w) (hr : ¬ rdy d i = 0) : Calls Try.prog 33 #[.pointer (some ⟨b, 0, none⟩), .int .i64 i] w fun e w' => e = .returned (.tuple #[.int .i64 0, .int .i64 (rdy d i)]) ∧ w' = w := by
  go_enter Try.func33, Try.ntmps33
  go_wp2_with fail
  refine (ready_any b d i w h).mono ?_; rintro e w' ⟨rfl, rfl⟩
  go_wp2
  go_ret2
  exact ⟨rfl, rfl⟩
set_option maxRecDepth 100000 in
theorem Len_ok (b : Nat) (d : Dk) (i : Int) (w : World) (h : Is b d w) (hf : d.Fits) (hr : rdy d i = 0) : Calls Try.prog 33 #[.pointer (some ⟨b, 0, none⟩), .int .i64 i] w fun e w' => e = .returned (.tuple #[.int .i64 ((d.s i).size + (d.l i).size : Nat), .int .i64 0]) ∧ ∃ n, w' = w.drewN n := by
  obtain ⟨f0, f1, f2, f3, _, _⟩ := hf
  have R := ready_any b d i w h
  rw [hr] at R
  obtain ⟨_, _, rfl | rfl | rfl | rfl⟩ := rdy_file hr
  · have ca := h.c0
    have cb := h.c1
    show Calls Try.prog 33 _ w fun e w' => e = .returned (.tuple #[.int .i64 (d.s0.size + d.l0.size : Nat), .int .i64 0]) ∧ ∃ n, w' = w.drewN n
    go_enter Try.func33, Try.ntmps33
    go_wp2_with fail
    refine R.mono ?_; rintro e w' ⟨rfl, rfl⟩
    go_wp2_with fail
    go_quiet (fail)
    go_wp2
    go_ret2
    exact ⟨rfl, _, rfl⟩
  · have ca := h.c2
    have cb := h.c3
    show Calls Try.prog 33 _ w fun e w' => e = .returned (.tuple #[.int .i64 (d.s1.size + d.l1.size : Nat), .int .i64 0]) ∧ ∃ n, w' = w.drewN n
    go_enter Try.func33, Try.ntmps33
    go_wp2_with fail
    refine R.mono ?_; rintro e w' ⟨rfl, rfl⟩
    go_wp2_with fail
    go_quiet (fail)
    go_wp2
    go_ret2
    exact ⟨rfl, _, rfl⟩
  · have ca := h.c4
    have cb := h.c5
    show Calls Try.prog 33 _ w fun e w' => e = .returned (.tuple #[.int .i64 (d.s2.size + d.l2.size : Nat), .int .i64 0]) ∧ ∃ n, w' = w.drewN n
    go_enter Try.func33, Try.ntmps33
    go_wp2_with fail
    refine R.mono ?_; rintro e w' ⟨rfl, rfl⟩
    go_wp2_with fail
    go_quiet (fail)
    go_wp2
    go_ret2
    exact ⟨rfl, _, rfl⟩
  · have ca := h.c6
    have cb := h.c7
    show Calls Try.prog 33 _ w fun e w' => e = .returned (.tuple #[.int .i64 (d.s3.size + d.l3.size : Nat), .int .i64 0]) ∧ ∃ n, w' = w.drewN n
    go_enter Try.func33, Try.ntmps33
    go_wp2_with fail
    refine R.mono ?_; rintro e w' ⟨rfl, rfl⟩
    go_wp2_with fail
    go_quiet (fail)
    go_wp2
    go_ret2
    exact ⟨rfl, _, rfl⟩

set_option maxRecDepth 100000 in
theorem Read_nil (i : Int) (w : World) : Calls Try.prog 41 #[.pointer none, .int .i64 i] w fun e w' => e = .returned (.tuple #[.string ⟨#[]⟩, .int .i64 3]) ∧ w' = w := by
  go_enter Try.func41, Try.ntmps41
  go_wp2_with fail
  refine (ready_nil i w).mono ?_; rintro e w' ⟨rfl, rfl⟩
  go_wp2
  go_ret2
  exact ⟨rfl, rfl⟩
set_option maxRecDepth 100000 in
theorem Read_bad (b : Nat) (d : Dk) (i : Int) (w : World) (h : Is b d w) (hr : ¬ rdy d i = 0) : Calls Try.prog 41 #[.pointer (some ⟨b, 0, none⟩), .int .i64 i] w fun e w' => e = .returned (.tuple #[.string ⟨#[]⟩, .int .i64 (rdy d i)]) ∧ w' = w := by
  go_enter Try.func41, Try.ntmps41
  go_wp2_with fail
  refine (ready_any b d i w h).mono ?_; rintro e w' ⟨rfl, rfl⟩
  go_wp2
  go_ret2
  exact ⟨rfl, rfl⟩
set_option maxRecDepth 100000 in
theorem Read_ok (b : Nat) (d : Dk) (i : Int) (w : World) (h : Is b d w) (hf : d.Fits) (hr : rdy d i = 0) : Calls Try.prog 41 #[.pointer (some ⟨b, 0, none⟩), .int .i64 i] w fun e w' => e = .returned (.tuple #[.string (d.s i ++ d.l i), .int .i64 0]) ∧ ∃ n, w' = w.drewN n := by
  obtain ⟨f0, f1, f2, f3, _, _⟩ := hf
  have R := ready_any b d i w h
  rw [hr] at R
  obtain ⟨_, _, rfl | rfl | rfl | rfl⟩ := rdy_file hr
  · have ca := h.c0
    have cb := h.c1
    have z : ¬ 9223372036854775807 < d.s0.size + d.l0.size := by omega
    show Calls Try.prog 41 _ w fun e w' => e = .returned (.tuple #[.string (d.s0 ++ d.l0), .int .i64 0]) ∧ ∃ n, w' = w.drewN n
    go_enter Try.func41, Try.ntmps41
    go_wp2_with fail
    refine R.mono ?_; rintro e w' ⟨rfl, rfl⟩
    go_wp2_with fail
    go_quiet (fail)
    go_wp2
    go_ret2
    exact ⟨rfl, _, rfl⟩
  · have ca := h.c2
    have cb := h.c3
    have z : ¬ 9223372036854775807 < d.s1.size + d.l1.size := by omega
    show Calls Try.prog 41 _ w fun e w' => e = .returned (.tuple #[.string (d.s1 ++ d.l1), .int .i64 0]) ∧ ∃ n, w' = w.drewN n
    go_enter Try.func41, Try.ntmps41
    go_wp2_with fail
    refine R.mono ?_; rintro e w' ⟨rfl, rfl⟩
    go_wp2_with fail
    go_quiet (fail)
    go_wp2
    go_ret2
    exact ⟨rfl, _, rfl⟩
  · have ca := h.c4
    have cb := h.c5
    have z : ¬ 9223372036854775807 < d.s2.size + d.l2.size := by omega
    show Calls Try.prog 41 _ w fun e w' => e = .returned (.tuple #[.string (d.s2 ++ d.l2), .int .i64 0]) ∧ ∃ n, w' = w.drewN n
    go_enter Try.func41, Try.ntmps41
    go_wp2_with fail
    refine R.mono ?_; rintro e w' ⟨rfl, rfl⟩
    go_wp2_with fail
    go_quiet (fail)
    go_wp2
    go_ret2
    exact ⟨rfl, _, rfl⟩
  · have ca := h.c6
    have cb := h.c7
    have z : ¬ 9223372036854775807 < d.s3.size + d.l3.size := by omega
    show Calls Try.prog 41 _ w fun e w' => e = .returned (.tuple #[.string (d.s3 ++ d.l3), .int .i64 0]) ∧ ∃ n, w' = w.drewN n
    go_enter Try.func41, Try.ntmps41
    go_wp2_with fail
    refine R.mono ?_; rintro e w' ⟨rfl, rfl⟩
    go_wp2_with fail
    go_quiet (fail)
    go_wp2
    go_ret2
    exact ⟨rfl, _, rfl⟩

set_option maxRecDepth 100000 in
theorem Late_nil (i : Int) (w : World) : Calls Try.prog 42 #[.pointer none, .int .i64 i] w fun e w' => e = .returned (.int .i64 0) ∧ w' = w := by
  go_enter Try.func42, Try.ntmps42
  go_wp2_with fail
  refine (ready_nil i w).mono ?_; rintro e w' ⟨rfl, rfl⟩
  go_wp2
  go_ret
  exact ⟨rfl, rfl⟩
set_option maxRecDepth 100000 in
theorem Late_bad (b : Nat) (d : Dk) (i : Int) (w : World) (h : Is b d w) (hr : ¬ rdy d i = 0) : Calls Try.prog 42 #[.pointer (some ⟨b, 0, none⟩), .int .i64 i] w fun e w' => e = .returned (.int .i64 0) ∧ w' = w := by
  go_enter Try.func42, Try.ntmps42
  go_wp2_with fail
  refine (ready_any b d i w h).mono ?_; rintro e w' ⟨rfl, rfl⟩
  go_wp2
  go_ret
  exact ⟨rfl, rfl⟩
set_option maxRecDepth 100000 in
theorem Late_ok (b : Nat) (d : Dk) (i : Int) (w : World) (h : Is b d w) (hr : rdy d i = 0) : Calls Try.prog 42 #[.pointer (some ⟨b, 0, none⟩), .int .i64 i] w fun e w' => e = .returned (.int .i64 ((d.l i).size : Nat)) ∧ w' = w := by
  have R := ready_any b d i w h
  rw [hr] at R
  obtain ⟨_, _, rfl | rfl | rfl | rfl⟩ := rdy_file hr
  · have cb := h.c1
    show Calls Try.prog 42 _ w fun e w' => e = .returned (.int .i64 (d.l0.size : Nat)) ∧ w' = w
    go_enter Try.func42, Try.ntmps42
    go_wp2_with fail
    refine R.mono ?_; rintro e w' ⟨rfl, rfl⟩
    go_wp2
    go_ret
    exact ⟨rfl, rfl⟩
  · have cb := h.c3
    show Calls Try.prog 42 _ w fun e w' => e = .returned (.int .i64 (d.l1.size : Nat)) ∧ w' = w
    go_enter Try.func42, Try.ntmps42
    go_wp2_with fail
    refine R.mono ?_; rintro e w' ⟨rfl, rfl⟩
    go_wp2
    go_ret
    exact ⟨rfl, rfl⟩
  · have cb := h.c5
    show Calls Try.prog 42 _ w fun e w' => e = .returned (.int .i64 (d.l2.size : Nat)) ∧ w' = w
    go_enter Try.func42, Try.ntmps42
    go_wp2_with fail
    refine R.mono ?_; rintro e w' ⟨rfl, rfl⟩
    go_wp2
    go_ret
    exact ⟨rfl, rfl⟩
  · have cb := h.c7
    show Calls Try.prog 42 _ w fun e w' => e = .returned (.int .i64 (d.l3.size : Nat)) ∧ w' = w
    go_enter Try.func42, Try.ntmps42
    go_wp2_with fail
    refine R.mono ?_; rintro e w' ⟨rfl, rfl⟩
    go_wp2
    go_ret
    exact ⟨rfl, rfl⟩

set_option maxRecDepth 100000 in
theorem Limit_nil (i : Int) (w : World) : Calls Try.prog 35 #[.pointer none, .int .i64 i] w fun e w' => e = .returned (.tuple #[]) ∧ w' = w := by
  go_enter Try.func35, Try.ntmps35
  go_wp2
  go_end0
  exact ⟨rfl, rfl⟩
set_option maxRecDepth 100000 in
theorem Limit_any (b : Nat) (d : Dk) (n : Int) (w : World) (h : Is b d w) : Calls Try.prog 35 #[.pointer (some ⟨b, 0, none⟩), .int .i64 n] w fun e w' => e = .returned (.tuple #[]) ∧ Turn b { d with left := n } w w' := by
  have c8 := h.c8
  have f8 := h.f8
  have r := h.p8 n
  go_enter Try.func35, Try.ntmps35
  go_wp2
  go_end0
  exact ⟨rfl, (Turn.refl h).put r⟩

end Go.Proofs.Ytejfdiiennnjjaa.D
