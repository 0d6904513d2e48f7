/- Package disk: Cut. -/
import Derived.Test.YtejfdiiennnjjaaDn
namespace Go.Proofs.Ytejfdiiennnjjaa.D
open Go.RowKit Go.Proofs Go.Proofs.Ytejfdiiennnjjaa
set_option linter.unusedVariables false

set_option maxRecDepth 100000 in
theorem Cut_nil (i n : Int) (w : World) : Calls Try.prog 43 #[.pointer none, .int .i64 i, .int .i64 n] w fun e w' => e = .returned (.int .i64 3) ∧ w' = w := by
  go_enter Try.func43, Try.ntmps43
  go_wp2_with fail
  refine (ready_nil i w).mono ?_; rintro e w' ⟨rfl, rfl⟩
  go_wp2
  go_ret
  exact ⟨rfl, rfl⟩
set_option maxRecDepth 100000 in
theorem Cut_bad (b : Nat) (d : Dk) (i n : Int) (w : World) (h : Is b d w) (hr : ¬ rdy d i = 0) : Calls Try.prog 43 #[.pointer (some ⟨b, 0, none⟩), .int .i64 i, .int .i64 n] w fun e w' => e = .returned (.int .i64 (rdy d i)) ∧ w' = w := by
  go_enter Try.func43, Try.ntmps43
  go_wp2_with fail
  refine (ready_any b d i w h).mono ?_; rintro e w' ⟨rfl, rfl⟩
  go_wp2
  go_ret
  exact ⟨rfl, rfl⟩
set_option maxRecDepth 100000 in
theorem Cut_arg (b : Nat) (d : Dk) (i n : Int) (w : World) (h : Is b d w) (hf : d.Fits) (hr : rdy d i = 0) (hn : n < 0 ∨ (d.len i : Int) < n) : Calls Try.prog 43 #[.pointer (some ⟨b, 0, none⟩), .int .i64 i, .int .i64 n] w fun e w' => e = .returned (.int .i64 1) ∧ ∃ q, w' = w.drewN q := by
  have R := ready_any b d i w h
  rw [hr] at R
  have L := Len_ok b d i w h hf hr
  change Calls _ _ _ _ (fun e w' => e = .returned (.tuple #[.int .i64 (d.len i : Nat), .int .i64 0]) ∧ ∃ n, w' = w.drewN n) at L
  generalize d.len i = m at *
  by_cases h0 : n < 0
  · go_enter Try.func43, Try.ntmps43
    go_wp2_with fail
    refine R.mono ?_; rintro e w' ⟨rfl, rfl⟩
    go_wp2_with fail
    refine L.mono ?_; rintro e w' ⟨rfl, nq, rfl⟩
    go_wp2
    go_ret
    exact ⟨rfl, _, rfl⟩
  · have h1 : (m : Int) < n := by omega
    go_enter Try.func43, Try.ntmps43
    go_wp2_with fail
    refine R.mono ?_; rintro e w' ⟨rfl, rfl⟩
    go_wp2_with fail
    refine L.mono ?_; rintro e w' ⟨rfl, nq, rfl⟩
    go_wp2
    go_ret
    exact ⟨rfl, _, rfl⟩
set_option maxRecDepth 100000 in
theorem Cut_dead (b : Nat) (d : Dk) (i n : Int) (w : World) (h : Is b d w) (hf : d.Fits) (hr : rdy d i = 0) (hn : 0 ≤ n) (hn2 : n ≤ d.len i) (h0 : d.left = 0) : Calls Try.prog 43 #[.pointer (some ⟨b, 0, none⟩), .int .i64 i, .int .i64 n] w fun e w' => e = .returned (.int .i64 13) ∧ Turn b (useD d) w w' := by
  have R := ready_any b d i w h
  rw [hr] at R
  have L := Len_ok b d i w h hf hr
  change Calls _ _ _ _ (fun e w' => e = .returned (.tuple #[.int .i64 (d.len i : Nat), .int .i64 0]) ∧ ∃ n, w' = w.drewN n) at L
  generalize d.len i = m at *
  have h1 : ¬ n < 0 := by omega
  have h2 : ¬ (m : Int) < n := by omega
  go_enter Try.func43, Try.ntmps43
  go_wp2_with fail
  refine R.mono ?_; rintro e w' ⟨rfl, rfl⟩
  go_wp2_with fail
  refine L.mono ?_; rintro e w' ⟨rfl, nq, rfl⟩
  go_wp2_with fail
  have U := use_any b d _ ((Turn.refl h).drewN nq).is hf.2.2.2.2.1
  rw [show useN d = 13 by unfold useN; rw [if_pos h0]] at U
  refine U.mono ?_; rintro e w1 ⟨rfl, T⟩
  go_wp2
  go_ret
  exact ⟨rfl, ((Turn.refl h).drewN nq).trans T⟩
theorem Turn.alloc {b : Nat} {d : Dk} {w w' : World} (h : Turn b d w w') (o : Obj) : Turn b d w (w'.alloc o) := by
  have hb := lt_of_block h.is
  refine ⟨?_, fun c hl hc => ?_, by have := h.size; simp; omega, fun B hB => (h.below B hB).alloc (by omega) _⟩
  · unfold Is; rw [Below.heap_alloc _ _ _ hb]; exact h.is
  · rw [Below.heap_alloc _ _ _ (by have := h.size; omega)]; exact h.others c hl hc
theorem Turn.other {b : Nat} {d : Dk} {w w' : World} (h : Turn b d w w') {a : Addr} (h1 : w.heap.size ≤ a.block) (h2 : a.block ≠ b) (v : Value) (hb : b < w.heap.size) : Turn b d w (w'.setCell a v) := by
  refine ⟨?_, fun c hl hc => ?_, by have := h.size; simpa using this, fun B hB => (h.below B hB).setCell (by omega) _⟩
  · unfold Is; rw [Below.heap_setCell _ _ _ _ (fun e => h2 e.symm)]; exact h.is
  · rw [Below.heap_setCell _ _ _ _ (by omega)]; exact h.others c hl hc
set_option maxRecDepth 100000 in
theorem Cut_safe (b : Nat) (d : Dk) (i n : Int) (w : World) (h : Is b d w) (hf : d.Fits) (hr : rdy d i = 0) (hn : 0 ≤ n) (hn2 : n ≤ d.len i) (h0 : ¬ d.left = 0) (hs : n ≤ (d.s i).size) : Calls Try.prog 43 #[.pointer (some ⟨b, 0, none⟩), .int .i64 i, .int .i64 n] w fun e w' => e = .returned (.int .i64 0) ∧ Turn b (((useD d).setS i ((d.s i).extract 0 n.toNat)).setL i ⟨#[]⟩) w w' := by
  have R := ready_any b d i w h
  rw [hr] at R
  have L := Len_ok b d i w h hf hr
  change Calls _ _ _ _ (fun e w' => e = .returned (.tuple #[.int .i64 (d.len i : Nat), .int .i64 0]) ∧ ∃ n, w' = w.drewN n) at L
  generalize d.len i = m at *
  have h1 : ¬ n < 0 := by omega
  have h2 : ¬ (m : Int) < n := by omega
  rw [← useD_s] at hs ⊢
  have U : ∀ nq, _ := fun nq => use_any b d _ ((Turn.refl h).drewN nq).is hf.2.2.2.2.1
  rw [show useN d = 0 by unfold useN; rw [if_neg h0]] at U
  generalize useD d = d' at *
  obtain ⟨_, _, rfl | rfl | rfl | rfl⟩ := rdy_file hr
  · change n ≤ d'.s0.size at hs
    go_enter Try.func43, Try.ntmps43
    go_wp2_with fail
    refine R.mono ?_; rintro e w' ⟨rfl, rfl⟩
    go_wp2_with fail
    refine L.mono ?_; rintro e w' ⟨rfl, nq, rfl⟩
    go_wp2_with fail
    refine (U nq).mono ?_; rintro e w1 ⟨rfl, T⟩
    have T1 := ((Turn.refl h).drewN nq).trans T
    have c := T.is.c0
    have c2 := T.is.c1
    clear T U L R
    go_wp2_with fail
    clear c c2
    have T2 := T1.alloc (Obj.cells #[Value.string d'.s0, Value.string d'.l0] 80)
    have n0 : (w1.alloc (Obj.cells #[Value.string d'.s0, Value.string d'.l0] 80)).cell? ⟨w1.heap.size, 0, none⟩ = some (.string d'.s0) := by simp
    have n1 : (w1.alloc (Obj.cells #[Value.string d'.s0, Value.string d'.l0] 80)).cell? ⟨w1.heap.size, 1, none⟩ = some (.string d'.l0) := by simp
    generalize w1.alloc (Obj.cells #[Value.string d'.s0, Value.string d'.l0] 80) = w2 at *
    have c := T2.is.c0
    have c2 := T2.is.c1
    have f := T2.is.f0
    have f2 := T2.is.f1
    have r := T2.is.p0 (d'.s0.extract 0 n.toNat)
    have f3 := r.f1
    have c3 := r.c1
    have r2 := r.p1 ⟨#[]⟩
    go_region
    all_goals (go_wp2; go_ret; exact ⟨rfl, by first | exact (T2.put r).put r2 | exact ((T2.put r).put r2).drew | exact ((T2.put r).put r2).drewN _⟩)
  · change n ≤ d'.s1.size at hs
    go_enter Try.func43, Try.ntmps43
    go_wp2_with fail
    refine R.mono ?_; rintro e w' ⟨rfl, rfl⟩
    go_wp2_with fail
    refine L.mono ?_; rintro e w' ⟨rfl, nq, rfl⟩
    go_wp2_with fail
    refine (U nq).mono ?_; rintro e w1 ⟨rfl, T⟩
    have T1 := ((Turn.refl h).drewN nq).trans T
    have c := T.is.c2
    have c2 := T.is.c3
    clear T U L R
    go_wp2_with fail
    clear c c2
    have T2 := T1.alloc (Obj.cells #[Value.string d'.s1, Value.string d'.l1] 80)
    have n0 : (w1.alloc (Obj.cells #[Value.string d'.s1, Value.string d'.l1] 80)).cell? ⟨w1.heap.size, 0, none⟩ = some (.string d'.s1) := by simp
    have n1 : (w1.alloc (Obj.cells #[Value.string d'.s1, Value.string d'.l1] 80)).cell? ⟨w1.heap.size, 1, none⟩ = some (.string d'.l1) := by simp
    generalize w1.alloc (Obj.cells #[Value.string d'.s1, Value.string d'.l1] 80) = w2 at *
    have c := T2.is.c2
    have c2 := T2.is.c3
    have f := T2.is.f2
    have f2 := T2.is.f3
    have r := T2.is.p2 (d'.s1.extract 0 n.toNat)
    have f3 := r.f3
    have c3 := r.c3
    have r2 := r.p3 ⟨#[]⟩
    go_region
    all_goals (go_wp2; go_ret; exact ⟨rfl, by first | exact (T2.put r).put r2 | exact ((T2.put r).put r2).drew | exact ((T2.put r).put r2).drewN _⟩)
  · change n ≤ d'.s2.size at hs
    go_enter Try.func43, Try.ntmps43
    go_wp2_with fail
    refine R.mono ?_; rintro e w' ⟨rfl, rfl⟩
    go_wp2_with fail
    refine L.mono ?_; rintro e w' ⟨rfl, nq, rfl⟩
    go_wp2_with fail
    refine (U nq).mono ?_; rintro e w1 ⟨rfl, T⟩
    have T1 := ((Turn.refl h).drewN nq).trans T
    have c := T.is.c4
    have c2 := T.is.c5
    clear T U L R
    go_wp2_with fail
    clear c c2
    have T2 := T1.alloc (Obj.cells #[Value.string d'.s2, Value.string d'.l2] 80)
    have n0 : (w1.alloc (Obj.cells #[Value.string d'.s2, Value.string d'.l2] 80)).cell? ⟨w1.heap.size, 0, none⟩ = some (.string d'.s2) := by simp
    have n1 : (w1.alloc (Obj.cells #[Value.string d'.s2, Value.string d'.l2] 80)).cell? ⟨w1.heap.size, 1, none⟩ = some (.string d'.l2) := by simp
    generalize w1.alloc (Obj.cells #[Value.string d'.s2, Value.string d'.l2] 80) = w2 at *
    have c := T2.is.c4
    have c2 := T2.is.c5
    have f := T2.is.f4
    have f2 := T2.is.f5
    have r := T2.is.p4 (d'.s2.extract 0 n.toNat)
    have f3 := r.f5
    have c3 := r.c5
    have r2 := r.p5 ⟨#[]⟩
    go_region
    all_goals (go_wp2; go_ret; exact ⟨rfl, by first | exact (T2.put r).put r2 | exact ((T2.put r).put r2).drew | exact ((T2.put r).put r2).drewN _⟩)
  · change n ≤ d'.s3.size at hs
    go_enter Try.func43, Try.ntmps43
    go_wp2_with fail
    refine R.mono ?_; rintro e w' ⟨rfl, rfl⟩
    go_wp2_with fail
    refine L.mono ?_; rintro e w' ⟨rfl, nq, rfl⟩
    go_wp2_with fail
    refine (U nq).mono ?_; rintro e w1 ⟨rfl, T⟩
    have T1 := ((Turn.refl h).drewN nq).trans T
    have c := T.is.c6
    have c2 := T.is.c7
    clear T U L R
    go_wp2_with fail
    clear c c2
    have T2 := T1.alloc (Obj.cells #[Value.string d'.s3, Value.string d'.l3] 80)
    have n0 : (w1.alloc (Obj.cells #[Value.string d'.s3, Value.string d'.l3] 80)).cell? ⟨w1.heap.size, 0, none⟩ = some (.string d'.s3) := by simp
    have n1 : (w1.alloc (Obj.cells #[Value.string d'.s3, Value.string d'.l3] 80)).cell? ⟨w1.heap.size, 1, none⟩ = some (.string d'.l3) := by simp
    generalize w1.alloc (Obj.cells #[Value.string d'.s3, Value.string d'.l3] 80) = w2 at *
    have c := T2.is.c6
    have c2 := T2.is.c7
    have f := T2.is.f6
    have f2 := T2.is.f7
    have r := T2.is.p6 (d'.s3.extract 0 n.toNat)
    have f3 := r.f7
    have c3 := r.c7
    have r2 := r.p7 ⟨#[]⟩
    go_region
    all_goals (go_wp2; go_ret; exact ⟨rfl, by first | exact (T2.put r).put r2 | exact ((T2.put r).put r2).drew | exact ((T2.put r).put r2).drewN _⟩)

set_option maxRecDepth 100000 in
theorem Cut_late (b : Nat) (d : Dk) (i n : Int) (w : World) (h : Is b d w) (hf : d.Fits) (hr : rdy d i = 0) (hn2 : n ≤ d.len i) (h0 : ¬ d.left = 0) (hs : ((d.s i).size : Int) < n) : Calls Try.prog 43 #[.pointer (some ⟨b, 0, none⟩), .int .i64 i, .int .i64 n] w fun e w' => e = .returned (.int .i64 0) ∧ Turn b ((useD d).setL i ((d.l i).extract 0 (n.toNat - (d.s i).size))) w w' := by
  have R := ready_any b d i w h
  rw [hr] at R
  have L := Len_ok b d i w h hf hr
  change Calls _ _ _ _ (fun e w' => e = .returned (.tuple #[.int .i64 (d.len i : Nat), .int .i64 0]) ∧ ∃ n, w' = w.drewN n) at L
  have h5 : n ≤ ((d.s i).size : Int) + ((d.l i).size : Int) := by unfold Dk.len at hn2; push_cast at hn2; exact hn2
  have hm := len_max hf i
  generalize d.len i = m at *
  have h1 : ¬ n < 0 := by omega
  have h2 : ¬ (m : Int) < n := by omega
  rw [← useD_l]
  rw [← useD_s] at hs h5 ⊢
  rw [← useD_l] at h5
  have U : ∀ nq, _ := fun nq => use_any b d _ ((Turn.refl h).drewN nq).is hf.2.2.2.2.1
  rw [show useN d = 0 by unfold useN; rw [if_neg h0]] at U
  generalize useD d = d' at *
  obtain ⟨_, _, rfl | rfl | rfl | rfl⟩ := rdy_file hr
  · change (d'.s0.size : Int) < n at hs
    change n ≤ (d'.s0.size : Int) + (d'.l0.size : Int) at h5
    have h6 : ¬ n ≤ (d'.s0.size : Int) := by omega
    have h7 : 0 ≤ n - (d'.s0.size : Int) := by omega
    have h8 : n - (d'.s0.size : Int) ≤ (d'.l0.size : Int) := by omega
    show Calls Try.prog 43 _ w fun e w' => e = .returned (.int .i64 0) ∧ Turn b (d'.setL 0 (d'.l0.extract 0 (n.toNat - d'.s0.size))) w w'
    go_enter Try.func43, Try.ntmps43
    go_wp2_with fail
    refine R.mono ?_; rintro e w' ⟨rfl, rfl⟩
    go_wp2_with fail
    refine L.mono ?_; rintro e w' ⟨rfl, nq, rfl⟩
    go_wp2_with fail
    refine (U nq).mono ?_; rintro e w1 ⟨rfl, T⟩
    have T1 := ((Turn.refl h).drewN nq).trans T
    have c := T.is.c0
    have c2 := T.is.c1
    clear T U L R
    go_wp2_with fail
    clear c c2
    have T2 := T1.alloc (Obj.cells #[Value.string d'.s0, Value.string d'.l0] 80)
    have n0 : (w1.alloc (Obj.cells #[Value.string d'.s0, Value.string d'.l0] 80)).cell? ⟨w1.heap.size, 0, none⟩ = some (.string d'.s0) := by simp
    have n1 : (w1.alloc (Obj.cells #[Value.string d'.s0, Value.string d'.l0] 80)).cell? ⟨w1.heap.size, 1, none⟩ = some (.string d'.l0) := by simp
    generalize w1.alloc (Obj.cells #[Value.string d'.s0, Value.string d'.l0] 80) = w2 at *
    have c2 := T2.is.c1
    have f2 := T2.is.f1
    have r2 := T2.is.p1 (d'.l0.extract 0 (n.toNat - d'.s0.size))
    go_region
    all_goals (go_wp2; go_ret; exact ⟨rfl, by first | exact (T2.put r2) | exact (T2.put r2).drew | exact (T2.put r2).drewN _⟩)
  · change (d'.s1.size : Int) < n at hs
    change n ≤ (d'.s1.size : Int) + (d'.l1.size : Int) at h5
    have h6 : ¬ n ≤ (d'.s1.size : Int) := by omega
    have h7 : 0 ≤ n - (d'.s1.size : Int) := by omega
    have h8 : n - (d'.s1.size : Int) ≤ (d'.l1.size : Int) := by omega
    show Calls Try.prog 43 _ w fun e w' => e = .returned (.int .i64 0) ∧ Turn b (d'.setL 1 (d'.l1.extract 0 (n.toNat - d'.s1.size))) w w'
    go_enter Try.func43, Try.ntmps43
    go_wp2_with fail
    refine R.mono ?_; rintro e w' ⟨rfl, rfl⟩
    go_wp2_with fail
    refine L.mono ?_; rintro e w' ⟨rfl, nq, rfl⟩
    go_wp2_with fail
    refine (U nq).mono ?_; rintro e w1 ⟨rfl, T⟩
    have T1 := ((Turn.refl h).drewN nq).trans T
    have c := T.is.c2
    have c2 := T.is.c3
    clear T U L R
    go_wp2_with fail
    clear c c2
    have T2 := T1.alloc (Obj.cells #[Value.string d'.s1, Value.string d'.l1] 80)
    have n0 : (w1.alloc (Obj.cells #[Value.string d'.s1, Value.string d'.l1] 80)).cell? ⟨w1.heap.size, 0, none⟩ = some (.string d'.s1) := by simp
    have n1 : (w1.alloc (Obj.cells #[Value.string d'.s1, Value.string d'.l1] 80)).cell? ⟨w1.heap.size, 1, none⟩ = some (.string d'.l1) := by simp
    generalize w1.alloc (Obj.cells #[Value.string d'.s1, Value.string d'.l1] 80) = w2 at *
    have c2 := T2.is.c3
    have f2 := T2.is.f3
    have r2 := T2.is.p3 (d'.l1.extract 0 (n.toNat - d'.s1.size))
    go_region
    all_goals (go_wp2; go_ret; exact ⟨rfl, by first | exact (T2.put r2) | exact (T2.put r2).drew | exact (T2.put r2).drewN _⟩)
  · change (d'.s2.size : Int) < n at hs
    change n ≤ (d'.s2.size : Int) + (d'.l2.size : Int) at h5
    have h6 : ¬ n ≤ (d'.s2.size : Int) := by omega
    have h7 : 0 ≤ n - (d'.s2.size : Int) := by omega
    have h8 : n - (d'.s2.size : Int) ≤ (d'.l2.size : Int) := by omega
    show Calls Try.prog 43 _ w fun e w' => e = .returned (.int .i64 0) ∧ Turn b (d'.setL 2 (d'.l2.extract 0 (n.toNat - d'.s2.size))) w w'
    go_enter Try.func43, Try.ntmps43
    go_wp2_with fail
    refine R.mono ?_; rintro e w' ⟨rfl, rfl⟩
    go_wp2_with fail
    refine L.mono ?_; rintro e w' ⟨rfl, nq, rfl⟩
    go_wp2_with fail
    refine (U nq).mono ?_; rintro e w1 ⟨rfl, T⟩
    have T1 := ((Turn.refl h).drewN nq).trans T
    have c := T.is.c4
    have c2 := T.is.c5
    clear T U L R
    go_wp2_with fail
    clear c c2
    have T2 := T1.alloc (Obj.cells #[Value.string d'.s2, Value.string d'.l2] 80)
    have n0 : (w1.alloc (Obj.cells #[Value.string d'.s2, Value.string d'.l2] 80)).cell? ⟨w1.heap.size, 0, none⟩ = some (.string d'.s2) := by simp
    have n1 : (w1.alloc (Obj.cells #[Value.string d'.s2, Value.string d'.l2] 80)).cell? ⟨w1.heap.size, 1, none⟩ = some (.string d'.l2) := by simp
    generalize w1.alloc (Obj.cells #[Value.string d'.s2, Value.string d'.l2] 80) = w2 at *
    have c2 := T2.is.c5
    have f2 := T2.is.f5
    have r2 := T2.is.p5 (d'.l2.extract 0 (n.toNat - d'.s2.size))
    go_region
    all_goals (go_wp2; go_ret; exact ⟨rfl, by first | exact (T2.put r2) | exact (T2.put r2).drew | exact (T2.put r2).drewN _⟩)
  · change (d'.s3.size : Int) < n at hs
    change n ≤ (d'.s3.size : Int) + (d'.l3.size : Int) at h5
    have h6 : ¬ n ≤ (d'.s3.size : Int) := by omega
    have h7 : 0 ≤ n - (d'.s3.size : Int) := by omega
    have h8 : n - (d'.s3.size : Int) ≤ (d'.l3.size : Int) := by omega
    show Calls Try.prog 43 _ w fun e w' => e = .returned (.int .i64 0) ∧ Turn b (d'.setL 3 (d'.l3.extract 0 (n.toNat - d'.s3.size))) w w'
    go_enter Try.func43, Try.ntmps43
    go_wp2_with fail
    refine R.mono ?_; rintro e w' ⟨rfl, rfl⟩
    go_wp2_with fail
    refine L.mono ?_; rintro e w' ⟨rfl, nq, rfl⟩
    go_wp2_with fail
    refine (U nq).mono ?_; rintro e w1 ⟨rfl, T⟩
    have T1 := ((Turn.refl h).drewN nq).trans T
    have c := T.is.c6
    have c2 := T.is.c7
    clear T U L R
    go_wp2_with fail
    clear c c2
    have T2 := T1.alloc (Obj.cells #[Value.string d'.s3, Value.string d'.l3] 80)
    have n0 : (w1.alloc (Obj.cells #[Value.string d'.s3, Value.string d'.l3] 80)).cell? ⟨w1.heap.size, 0, none⟩ = some (.string d'.s3) := by simp
    have n1 : (w1.alloc (Obj.cells #[Value.string d'.s3, Value.string d'.l3] 80)).cell? ⟨w1.heap.size, 1, none⟩ = some (.string d'.l3) := by simp
    generalize w1.alloc (Obj.cells #[Value.string d'.s3, Value.string d'.l3] 80) = w2 at *
    have c2 := T2.is.c7
    have f2 := T2.is.f7
    have r2 := T2.is.p7 (d'.l3.extract 0 (n.toNat - d'.s3.size))
    go_region
    all_goals (go_wp2; go_ret; exact ⟨rfl, by first | exact (T2.put r2) | exact (T2.put r2).drew | exact (T2.put r2).drewN _⟩)

end Go.Proofs.Ytejfdiiennnjjaa.D
