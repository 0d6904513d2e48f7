/- Package disk: Crash. -/
import Derived.Test.YtejfdiiennnjjaaDo
import Derived.LoopTactic
import Derived.Test.YtejfdiiennnjjaaWMore
namespace Go.Proofs.Ytejfdiiennnjjaa.D
open Go.RowKit Go.Proofs Go.Proofs.Ytejfdiiennnjjaa Go.Proofs.YtejfdiiennnjjaaW.PrintMore
attribute [local go_sem] max2_int min2_int max_two min_two
set_option linter.unusedVariables false

set_option maxRecDepth 100000 in
theorem Crash_nil (k0 k1 k2 k3 : Int) (w : World) : Calls Try.prog 37 #[.pointer none, .agg #[.int .i64 k0, .int .i64 k1, .int .i64 k2, .int .i64 k3]] w fun e w' => e = .returned (.tuple #[]) ∧ w.heap.size ≤ w'.heap.size ∧ (∀ c, c < w.heap.size → w'.heap[c]? = w.heap[c]?) ∧ ∀ B, B ≤ w.heap.size → Below B w w' := by
  go_enter Try.func37, Try.ntmps37
  go_wp2
  refine bodyPost_ret (results_none rfl _ _ _) rfl ?_
  exact ⟨rfl, by simp, fun c hc => Below.heap_alloc _ _ _ hc, fun B hB => (Below.refl _ _).alloc hB _⟩
/-- How much of what is late is kept. -/
def kept (k : Int) (l : ByteArray) : Nat := min k.toNat l.size
def keep1 (s l : ByteArray) (k : Int) : ByteArray := s ++ l.extract 0 (kept k l)
def crash (d : Dk) (k0 k1 k2 k3 : Int) : Dk := ⟨keep1 d.s0 d.l0 k0, ⟨#[]⟩, keep1 d.s1 d.l1 k1, ⟨#[]⟩, keep1 d.s2 d.l2 k2, ⟨#[]⟩, keep1 d.s3 d.l3 k3, ⟨#[]⟩, -1, false, d.made⟩
/-- Behind so many rounds. -/
def part (d : Dk) (k0 k1 k2 k3 : Int) : Nat → Dk
  | 0 => d
  | 1 => { d with s0 := keep1 d.s0 d.l0 k0, l0 := ⟨#[]⟩ }
  | 2 => { d with s0 := keep1 d.s0 d.l0 k0, l0 := ⟨#[]⟩, s1 := keep1 d.s1 d.l1 k1, l1 := ⟨#[]⟩ }
  | 3 => { d with s0 := keep1 d.s0 d.l0 k0, l0 := ⟨#[]⟩, s1 := keep1 d.s1 d.l1 k1, l1 := ⟨#[]⟩, s2 := keep1 d.s2 d.l2 k2, l2 := ⟨#[]⟩ }
  | _ => { d with s0 := keep1 d.s0 d.l0 k0, l0 := ⟨#[]⟩, s1 := keep1 d.s1 d.l1 k1, l1 := ⟨#[]⟩, s2 := keep1 d.s2 d.l2 k2, l2 := ⟨#[]⟩, s3 := keep1 d.s3 d.l3 k3, l3 := ⟨#[]⟩ }
set_option maxRecDepth 100000 in
theorem Crash_unmade (b : Nat) (d : Dk) (k0 k1 k2 k3 : Int) (w : World) (h : Is b d w) (hm : d.made = false) : Calls Try.prog 37 #[.pointer (some ⟨b, 0, none⟩), .agg #[.int .i64 k0, .int .i64 k1, .int .i64 k2, .int .i64 k3]] w fun e w' => e = .returned (.tuple #[]) ∧ Turn b d w w' := by
  have T := (Turn.refl h).alloc (Obj.cells #[.int .i64 k0, .int .i64 k1, .int .i64 k2, .int .i64 k3] 59)
  have c10 := T.is.c10
  rw [hm] at c10
  go_enter Try.func37, Try.ntmps37
  go_wp2
  refine bodyPost_ret (results_none rfl _ _ _) rfl ?_
  exact ⟨rfl, T⟩
theorem idx0 (a b c d e f g h : ByteArray) (w : World) : Sem.run Try.prog (Instr.index 81 (Value.agg #[.string a, .string b, .string c, .string d, .string e, .string f, .string g, .string h]) (.int .i64 0)) w = .ok (.agg #[.string a, .string b]) w := by kernel_rfl
theorem idx1 (a b c d e f g h : ByteArray) (w : World) : Sem.run Try.prog (Instr.index 81 (Value.agg #[.string a, .string b, .string c, .string d, .string e, .string f, .string g, .string h]) (.int .i64 1)) w = .ok (.agg #[.string c, .string d]) w := by kernel_rfl
theorem idx2 (a b c d e f g h : ByteArray) (w : World) : Sem.run Try.prog (Instr.index 81 (Value.agg #[.string a, .string b, .string c, .string d, .string e, .string f, .string g, .string h]) (.int .i64 2)) w = .ok (.agg #[.string e, .string f]) w := by kernel_rfl
theorem idx3 (a b c d e f g h : ByteArray) (w : World) : Sem.run Try.prog (Instr.index 81 (Value.agg #[.string a, .string b, .string c, .string d, .string e, .string f, .string g, .string h]) (.int .i64 3)) w = .ok (.agg #[.string g, .string h]) w := by kernel_rfl
theorem new_pair (w : World) (x y : Value) (t : Nat) : (w.alloc (Obj.cells #[x, y] t)).cell? ⟨w.heap.size, 0, none⟩ = some x ∧ (w.alloc (Obj.cells #[x, y] t)).cell? ⟨w.heap.size, 1, none⟩ = some y := by
  constructor <;> simp
theorem heap2 (w : World) {b c : Nat} (hc : c ≠ b) (o1 o2 : Nat) (v1 v2 : Value) : ((w.setCell ⟨b, o1, none⟩ v1).setCell ⟨b, o2, none⟩ v2).heap[c]? = w.heap[c]? :=
  (Below.heap_setCell _ ⟨b, o2, none⟩ _ _ hc).trans (Below.heap_setCell _ ⟨b, o1, none⟩ _ _ hc)
theorem len_fits (l : ByteArray) (k : Int) (hl : (l.size : Int) ≤ 1048576) : kept k l ≤ 1048576 ∧ (kept k l : Int) ≤ l.size ∧ kept k l ≤ l.size := by unfold kept; omega
theorem kept_min (k : Int) (l : ByteArray) : (if (0 : Int) < (if (l.size : Int) < k then (l.size : Int) else k) then (if (l.size : Int) < k then (l.size : Int) else k) else 0) = (kept k l : Int) := by
  unfold kept; split <;> split at * <;> omega
set_option maxRecDepth 100000 in
set_option maxHeartbeats 4000000 in
theorem Crash_made (b : Nat) (d : Dk) (k0 k1 k2 k3 : Int) (w : World) (h : Is b d w) (hf : d.Fits) (hm : d.made = true) : Calls Try.prog 37 #[.pointer (some ⟨b, 0, none⟩), .agg #[.int .i64 k0, .int .i64 k1, .int .i64 k2, .int .i64 k3]] w fun e w' => e = .returned (.tuple #[]) ∧ Turn b (crash d k0 k1 k2 k3) w w' := by
  have hlt := lt_of_block h
  have hne : w.heap.size ≠ b := by omega
  have T := (Turn.refl h).alloc (Obj.cells #[.int .i64 k0, .int .i64 k1, .int .i64 k2, .int .i64 k3] 59)
  have c0 := T.is.c0
  have c1 := T.is.c1
  have c2 := T.is.c2
  have c3 := T.is.c3
  have c4 := T.is.c4
  have c5 := T.is.c5
  have c6 := T.is.c6
  have c7 := T.is.c7
  have c10 := T.is.c10
  rw [hm] at c10
  obtain ⟨g0, g1, g2, g3, _, _⟩ := hf
  go_enter Try.func37, Try.ntmps37
  go_wp2
  clear c0 c1 c2 c3 c4 c5 c6 c7 c10
  go_loopw [20] (fun i wr => ∃ n : Int, 0 ≤ n ∧ n ≤ 4 ∧ i = .int .i64 n ∧ Turn b (part d k0 k1 k2 k3 n.toNat) w wr ∧ wr.heap[w.heap.size]? = some (.cells #[.int .i64 k0, .int .i64 k1, .int .i64 k2, .int .i64 k3] 59 (0, 0))) (fun i _ => (4 - intOf i).toNat)
  case atStart =>
    exact ⟨0, by omega, by omega, rfl, T, heap_alloc_new _ _⟩
  case round =>
    obtain ⟨n, hn0, hn4, rfl, T, hK⟩ := hrel
    have kc0 : wr.cell? ⟨w.heap.size, 0, none⟩ = some (.int .i64 k0) := by simp [World.cell?, hK]
    have kc1 : wr.cell? ⟨w.heap.size, 1, none⟩ = some (.int .i64 k1) := by simp [World.cell?, hK]
    have kc2 : wr.cell? ⟨w.heap.size, 2, none⟩ = some (.int .i64 k2) := by simp [World.cell?, hK]
    have kc3 : wr.cell? ⟨w.heap.size, 3, none⟩ = some (.int .i64 k3) := by simp [World.cell?, hK]
    have hKl := lt_of_block hK
    obtain rfl | rfl | rfl | rfl | rfl : n = 0 ∨ n = 1 ∨ n = 2 ∨ n = 3 ∨ n = 4 := by omega
    · obtain ⟨z1, z2, z3⟩ := len_fits d.l0 k0 (by omega)
      have zk := kept_min k0 d.l0
      have zs : ¬ 9223372036854775807 < d.s0.size + kept k0 d.l0 := by omega
      replace T : Turn b (part d k0 k1 k2 k3 0) w wr := T
      go_wp2_with fail
      rw [idx0]
      simp only [Result.andThen]
      rw [Oper.upon_value]
      go_wp2_with fail
      obtain ⟨n0, n1⟩ := new_pair wr (.string d.s0) (.string d.l0) 80
      have T2 := T.alloc (Obj.cells #[.string d.s0, .string d.l0] 80)
      have hK2 := (Below.heap_alloc wr (Obj.cells #[.string d.s0, .string d.l0] 80) _ hKl).trans hK
      clear kc0 kc1 kc2 kc3
      generalize wr.alloc (Obj.cells #[.string d.s0, .string d.l0] 80) = w2 at *
      have kc : w2.cell? ⟨w.heap.size, 0, none⟩ = some (.int .i64 k0) := by simp [World.cell?, hK2]
      have c := T2.is.c0
      have c2 := T2.is.c1
      have f := T2.is.f0
      have f2 := T2.is.f1
      have r := T2.is.p0 (keep1 d.s0 d.l0 k0)
      have f3 := r.f1
      have c3 := r.c1
      have r2 := r.p1 ⟨#[]⟩
      have T3 : Turn b (part d k0 k1 k2 k3 1) w ((w2.setCell ⟨b, 0, none⟩ (.string (d.s0 ++ d.l0.extract 0 (kept k0 d.l0)))).setCell ⟨b, 1, none⟩ (.string ⟨#[]⟩)) := (T2.put r).put r2
      replace f3 : (w2.setCell ⟨b, 0, none⟩ (.string (d.s0 ++ d.l0.extract 0 (kept k0 d.l0)))).frozen? ⟨b, 1, none⟩ = false := f3
      replace c3 : (w2.setCell ⟨b, 0, none⟩ (.string (d.s0 ++ d.l0.extract 0 (kept k0 d.l0)))).cell? ⟨b, 1, none⟩ = some (.string d.l0) := c3
      clear T hK r r2
      go_quiet (fail)
      generalize (if (d.l0.size : Int) < k0 then (d.l0.size : Int) else k0) = mm
      go_wp2_with fail
      go_region
      all_goals (go_wp2; go_roundw)
      all_goals first
        | exact ⟨1, by omega, by omega, rfl, T3.drewN (nq + 1), (heap2 (w2.drewN (nq + 1)) hne _ _ _ _).trans hK2⟩
        | (simp [intOf]; done)
        | (simp [intOf]; omega)
    · obtain ⟨z1, z2, z3⟩ := len_fits d.l1 k1 (by omega)
      have zk := kept_min k1 d.l1
      have zs : ¬ 9223372036854775807 < d.s1.size + kept k1 d.l1 := by omega
      replace T : Turn b (part d k0 k1 k2 k3 1) w wr := T
      go_wp2_with fail
      rw [idx1]
      simp only [Result.andThen]
      rw [Oper.upon_value]
      go_wp2_with fail
      obtain ⟨n0, n1⟩ := new_pair wr (.string d.s1) (.string d.l1) 80
      have T2 := T.alloc (Obj.cells #[.string d.s1, .string d.l1] 80)
      have hK2 := (Below.heap_alloc wr (Obj.cells #[.string d.s1, .string d.l1] 80) _ hKl).trans hK
      clear kc0 kc1 kc2 kc3
      generalize wr.alloc (Obj.cells #[.string d.s1, .string d.l1] 80) = w2 at *
      have kc : w2.cell? ⟨w.heap.size, 1, none⟩ = some (.int .i64 k1) := by simp [World.cell?, hK2]
      have c := T2.is.c2
      have c2 := T2.is.c3
      have f := T2.is.f2
      have f2 := T2.is.f3
      have r := T2.is.p2 (keep1 d.s1 d.l1 k1)
      have f3 := r.f3
      have c3 := r.c3
      have r2 := r.p3 ⟨#[]⟩
      have T3 : Turn b (part d k0 k1 k2 k3 2) w ((w2.setCell ⟨b, 2, none⟩ (.string (d.s1 ++ d.l1.extract 0 (kept k1 d.l1)))).setCell ⟨b, 3, none⟩ (.string ⟨#[]⟩)) := (T2.put r).put r2
      replace f3 : (w2.setCell ⟨b, 2, none⟩ (.string (d.s1 ++ d.l1.extract 0 (kept k1 d.l1)))).frozen? ⟨b, 3, none⟩ = false := f3
      replace c3 : (w2.setCell ⟨b, 2, none⟩ (.string (d.s1 ++ d.l1.extract 0 (kept k1 d.l1)))).cell? ⟨b, 3, none⟩ = some (.string d.l1) := c3
      clear T hK r r2
      go_quiet (fail)
      generalize (if (d.l1.size : Int) < k1 then (d.l1.size : Int) else k1) = mm
      go_wp2_with fail
      go_region
      all_goals (go_wp2; go_roundw)
      all_goals first
        | exact ⟨2, by omega, by omega, rfl, T3.drewN (nq + 1), (heap2 (w2.drewN (nq + 1)) hne _ _ _ _).trans hK2⟩
        | (simp [intOf]; done)
        | (simp [intOf]; omega)
    · obtain ⟨z1, z2, z3⟩ := len_fits d.l2 k2 (by omega)
      have zk := kept_min k2 d.l2
      have zs : ¬ 9223372036854775807 < d.s2.size + kept k2 d.l2 := by omega
      replace T : Turn b (part d k0 k1 k2 k3 2) w wr := T
      go_wp2_with fail
      rw [idx2]
      simp only [Result.andThen]
      rw [Oper.upon_value]
      go_wp2_with fail
      obtain ⟨n0, n1⟩ := new_pair wr (.string d.s2) (.string d.l2) 80
      have T2 := T.alloc (Obj.cells #[.string d.s2, .string d.l2] 80)
      have hK2 := (Below.heap_alloc wr (Obj.cells #[.string d.s2, .string d.l2] 80) _ hKl).trans hK
      clear kc0 kc1 kc2 kc3
      generalize wr.alloc (Obj.cells #[.string d.s2, .string d.l2] 80) = w2 at *
      have kc : w2.cell? ⟨w.heap.size, 2, none⟩ = some (.int .i64 k2) := by simp [World.cell?, hK2]
      have c := T2.is.c4
      have c2 := T2.is.c5
      have f := T2.is.f4
      have f2 := T2.is.f5
      have r := T2.is.p4 (keep1 d.s2 d.l2 k2)
      have f3 := r.f5
      have c3 := r.c5
      have r2 := r.p5 ⟨#[]⟩
      have T3 : Turn b (part d k0 k1 k2 k3 3) w ((w2.setCell ⟨b, 4, none⟩ (.string (d.s2 ++ d.l2.extract 0 (kept k2 d.l2)))).setCell ⟨b, 5, none⟩ (.string ⟨#[]⟩)) := (T2.put r).put r2
      replace f3 : (w2.setCell ⟨b, 4, none⟩ (.string (d.s2 ++ d.l2.extract 0 (kept k2 d.l2)))).frozen? ⟨b, 5, none⟩ = false := f3
      replace c3 : (w2.setCell ⟨b, 4, none⟩ (.string (d.s2 ++ d.l2.extract 0 (kept k2 d.l2)))).cell? ⟨b, 5, none⟩ = some (.string d.l2) := c3
      clear T hK r r2
      go_quiet (fail)
      generalize (if (d.l2.size : Int) < k2 then (d.l2.size : Int) else k2) = mm
      go_wp2_with fail
      go_region
      all_goals (go_wp2; go_roundw)
      all_goals first
        | exact ⟨3, by omega, by omega, rfl, T3.drewN (nq + 1), (heap2 (w2.drewN (nq + 1)) hne _ _ _ _).trans hK2⟩
        | (simp [intOf]; done)
        | (simp [intOf]; omega)
    · obtain ⟨z1, z2, z3⟩ := len_fits d.l3 k3 (by omega)
      have zk := kept_min k3 d.l3
      have zs : ¬ 9223372036854775807 < d.s3.size + kept k3 d.l3 := by omega
      replace T : Turn b (part d k0 k1 k2 k3 3) w wr := T
      go_wp2_with fail
      rw [idx3]
      simp only [Result.andThen]
      rw [Oper.upon_value]
      go_wp2_with fail
      obtain ⟨n0, n1⟩ := new_pair wr (.string d.s3) (.string d.l3) 80
      have T2 := T.alloc (Obj.cells #[.string d.s3, .string d.l3] 80)
      have hK2 := (Below.heap_alloc wr (Obj.cells #[.string d.s3, .string d.l3] 80) _ hKl).trans hK
      clear kc0 kc1 kc2 kc3
      generalize wr.alloc (Obj.cells #[.string d.s3, .string d.l3] 80) = w2 at *
      have kc : w2.cell? ⟨w.heap.size, 3, none⟩ = some (.int .i64 k3) := by simp [World.cell?, hK2]
      have c := T2.is.c6
      have c2 := T2.is.c7
      have f := T2.is.f6
      have f2 := T2.is.f7
      have r := T2.is.p6 (keep1 d.s3 d.l3 k3)
      have f3 := r.f7
      have c3 := r.c7
      have r2 := r.p7 ⟨#[]⟩
      have T3 : Turn b (part d k0 k1 k2 k3 4) w ((w2.setCell ⟨b, 6, none⟩ (.string (d.s3 ++ d.l3.extract 0 (kept k3 d.l3)))).setCell ⟨b, 7, none⟩ (.string ⟨#[]⟩)) := (T2.put r).put r2
      replace f3 : (w2.setCell ⟨b, 6, none⟩ (.string (d.s3 ++ d.l3.extract 0 (kept k3 d.l3)))).frozen? ⟨b, 7, none⟩ = false := f3
      replace c3 : (w2.setCell ⟨b, 6, none⟩ (.string (d.s3 ++ d.l3.extract 0 (kept k3 d.l3)))).cell? ⟨b, 7, none⟩ = some (.string d.l3) := c3
      clear T hK r r2
      go_quiet (fail)
      generalize (if (d.l3.size : Int) < k3 then (d.l3.size : Int) else k3) = mm
      go_wp2_with fail
      go_region
      all_goals (go_wp2; go_roundw)
      all_goals first
        | exact ⟨4, by omega, by omega, rfl, T3.drewN (nq + 1), (heap2 (w2.drewN (nq + 1)) hne _ _ _ _).trans hK2⟩
        | (simp [intOf]; done)
        | (simp [intOf]; omega)
    · have f8 := T.is.f8
      have c8 := T.is.c8
      have r := T.is.p8 (-1)
      have c9 := r.c9
      have f9 := r.f9
      have r2 := r.p9 false
      go_wp2
      go_end0
      exact ⟨rfl, (T.put r).put r2⟩
end Go.Proofs.Ytejfdiiennnjjaa.D
