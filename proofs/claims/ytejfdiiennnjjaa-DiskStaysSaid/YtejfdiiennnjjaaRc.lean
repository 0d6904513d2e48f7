/- The document's disk (lombardref06): what Sync computes. -/
import Derived.Test.YtejfdiiennnjjaaRb
import Derived.Deep.RegionWith
namespace Go.Proofs.Ytejfdiiennnjjaa.R
open Go.RowKit Go.Proofs Go.Proofs.Ytejfdiiennnjjaa
set_option linter.unusedVariables false

def syn (r : Rf) (i : Int) : Rf × Int := if ¬ (spe r (chk r i)).2 = 0 then spe r (chk r i) else ((spe r (chk r i)).1.setP i ((spe r (chk r i)).1.a i).size, 0)

set_option maxRecDepth 100000 in
set_option maxHeartbeats 8000000 in
theorem Sync_no (r : Rf) (i e0 : Int) (r' : Rf) (e' : Int) (w : World) (hc : chk r i = e0) (S : ∀ w : World, Calls Try.prog 72 #[.agg r.cells, .int .i64 e0] w fun x w' => x = .returned (.tuple #[.agg r'.cells, .int .i64 e']) ∧ ∃ o1 o2, w' = (w.alloc o1).alloc o2) (he : ¬ e' = 0) :
    Calls Try.prog 64 #[.agg r.cells, .int .i64 i] w fun e w' => e = .returned (.tuple #[.agg r'.cells, .int .i64 e']) ∧ Below w.heap.size w w' := by
  have C : ∀ w, _ := fun w => Check_any r i w
  rw [hc] at C
  clear hc
  obtain ⟨a0, p0, a1, p1, a2, p2, a3, p3, m, g⟩ := r
  obtain ⟨b0, q0, b1, q1, b2, q2, b3, q3, n, k⟩ := r'
  unfold Rf.cells at *
  dsimp only at *
  go_enter Try.func64, Try.ntmps64
  go_wp2_with fail
  go_region_with (first | (go_at_call 67; refine (C _).mono ?_; rintro e w1 ⟨rfl, rfl⟩) | (go_at_call 72; refine (S _).mono ?_; rintro e w1 ⟨rfl, o1, o2, rfl⟩))
  all_goals go_wp2_with fail
  all_goals refine bodyPost_ret (res2 Try.results64 _ (w.heap.size + 1) ⟨b0, q0, b1, q1, b2, q2, b3, q3, n, k⟩ _ _ rfl rfl ?_) rfl ⟨rfl, (bel5 _ _ _ _ _ _).drew⟩
  all_goals exact at5 _ _ _ _ _ _

set_option maxRecDepth 100000 in
set_option maxHeartbeats 8000000 in
theorem Sync_at0 (r r' : Rf) (w : World) (hm : (r'.a 0).size ≤ 1048576) (hc : chk r 0 = 0) (S : ∀ w : World, Calls Try.prog 72 #[.agg r.cells, .int .i64 0] w fun x w' => x = .returned (.tuple #[.agg r'.cells, .int .i64 0]) ∧ ∃ o1 o2, w' = (w.alloc o1).alloc o2) :
    Calls Try.prog 64 #[.agg r.cells, .int .i64 0] w fun e w' => e = .returned (.tuple #[.agg (r'.setP 0 (r'.a 0).size).cells, .int .i64 0]) ∧ Below w.heap.size w w' := by
  have C : ∀ w, _ := fun w => Check_any r 0 w
  rw [hc] at C
  clear hc
  obtain ⟨a0, p0, a1, p1, a2, p2, a3, p3, m, g⟩ := r
  obtain ⟨b0, q0, b1, q1, b2, q2, b3, q3, n, k⟩ := r'
  replace hm : b0.size ≤ 1048576 := hm
  change Calls _ _ _ _ (fun e w' => e = .returned (.tuple #[.agg (Rf.cells ⟨b0, (b0.size : Nat), b1, q1, b2, q2, b3, q3, n, k⟩), .int .i64 0]) ∧ Below w.heap.size w w')
  unfold Rf.cells at *
  dsimp only at *
  go_enter Try.func64, Try.ntmps64
  go_wp2_with fail
  go_region_with (first | (go_at_call 67; refine (C _).mono ?_; rintro e w1 ⟨rfl, rfl⟩) | (go_at_call 72; refine (S _).mono ?_; rintro e w1 ⟨rfl, o1, o2, rfl⟩))
  all_goals go_wp2_with fail
  all_goals refine bodyPost_ret (res2 Try.results64 _ (w.heap.size + 1) ⟨b0, (b0.size : Nat), b1, q1, b2, q2, b3, q3, n, k⟩ _ _ rfl rfl ?_) rfl ⟨rfl, (bel5 _ _ _ _ _ _).drew⟩
  all_goals exact at5 _ _ _ _ _ _

set_option maxRecDepth 100000 in
set_option maxHeartbeats 8000000 in
theorem Sync_at1 (r r' : Rf) (w : World) (hm : (r'.a 1).size ≤ 1048576) (hc : chk r 1 = 0) (S : ∀ w : World, Calls Try.prog 72 #[.agg r.cells, .int .i64 0] w fun x w' => x = .returned (.tuple #[.agg r'.cells, .int .i64 0]) ∧ ∃ o1 o2, w' = (w.alloc o1).alloc o2) :
    Calls Try.prog 64 #[.agg r.cells, .int .i64 1] w fun e w' => e = .returned (.tuple #[.agg (r'.setP 1 (r'.a 1).size).cells, .int .i64 0]) ∧ Below w.heap.size w w' := by
  have C : ∀ w, _ := fun w => Check_any r 1 w
  rw [hc] at C
  clear hc
  obtain ⟨a0, p0, a1, p1, a2, p2, a3, p3, m, g⟩ := r
  obtain ⟨b0, q0, b1, q1, b2, q2, b3, q3, n, k⟩ := r'
  replace hm : b1.size ≤ 1048576 := hm
  change Calls _ _ _ _ (fun e w' => e = .returned (.tuple #[.agg (Rf.cells ⟨b0, q0, b1, (b1.size : Nat), b2, q2, b3, q3, n, k⟩), .int .i64 0]) ∧ Below w.heap.size w w')
  unfold Rf.cells at *
  dsimp only at *
  go_enter Try.func64, Try.ntmps64
  go_wp2_with fail
  go_region_with (first | (go_at_call 67; refine (C _).mono ?_; rintro e w1 ⟨rfl, rfl⟩) | (go_at_call 72; refine (S _).mono ?_; rintro e w1 ⟨rfl, o1, o2, rfl⟩))
  all_goals go_wp2_with fail
  all_goals refine bodyPost_ret (res2 Try.results64 _ (w.heap.size + 1) ⟨b0, q0, b1, (b1.size : Nat), b2, q2, b3, q3, n, k⟩ _ _ rfl rfl ?_) rfl ⟨rfl, (bel5 _ _ _ _ _ _).drew⟩
  all_goals exact at5 _ _ _ _ _ _

set_option maxRecDepth 100000 in
set_option maxHeartbeats 8000000 in
theorem Sync_at2 (r r' : Rf) (w : World) (hm : (r'.a 2).size ≤ 1048576) (hc : chk r 2 = 0) (S : ∀ w : World, Calls Try.prog 72 #[.agg r.cells, .int .i64 0] w fun x w' => x = .returned (.tuple #[.agg r'.cells, .int .i64 0]) ∧ ∃ o1 o2, w' = (w.alloc o1).alloc o2) :
    Calls Try.prog 64 #[.agg r.cells, .int .i64 2] w fun e w' => e = .returned (.tuple #[.agg (r'.setP 2 (r'.a 2).size).cells, .int .i64 0]) ∧ Below w.heap.size w w' := by
  have C : ∀ w, _ := fun w => Check_any r 2 w
  rw [hc] at C
  clear hc
  obtain ⟨a0, p0, a1, p1, a2, p2, a3, p3, m, g⟩ := r
  obtain ⟨b0, q0, b1, q1, b2, q2, b3, q3, n, k⟩ := r'
  replace hm : b2.size ≤ 1048576 := hm
  change Calls _ _ _ _ (fun e w' => e = .returned (.tuple #[.agg (Rf.cells ⟨b0, q0, b1, q1, b2, (b2.size : Nat), b3, q3, n, k⟩), .int .i64 0]) ∧ Below w.heap.size w w')
  unfold Rf.cells at *
  dsimp only at *
  go_enter Try.func64, Try.ntmps64
  go_wp2_with fail
  go_region_with (first | (go_at_call 67; refine (C _).mono ?_; rintro e w1 ⟨rfl, rfl⟩) | (go_at_call 72; refine (S _).mono ?_; rintro e w1 ⟨rfl, o1, o2, rfl⟩))
  all_goals go_wp2_with fail
  all_goals refine bodyPost_ret (res2 Try.results64 _ (w.heap.size + 1) ⟨b0, q0, b1, q1, b2, (b2.size : Nat), b3, q3, n, k⟩ _ _ rfl rfl ?_) rfl ⟨rfl, (bel5 _ _ _ _ _ _).drew⟩
  all_goals exact at5 _ _ _ _ _ _

set_option maxRecDepth 100000 in
set_option maxHeartbeats 8000000 in
theorem Sync_at3 (r r' : Rf) (w : World) (hm : (r'.a 3).size ≤ 1048576) (hc : chk r 3 = 0) (S : ∀ w : World, Calls Try.prog 72 #[.agg r.cells, .int .i64 0] w fun x w' => x = .returned (.tuple #[.agg r'.cells, .int .i64 0]) ∧ ∃ o1 o2, w' = (w.alloc o1).alloc o2) :
    Calls Try.prog 64 #[.agg r.cells, .int .i64 3] w fun e w' => e = .returned (.tuple #[.agg (r'.setP 3 (r'.a 3).size).cells, .int .i64 0]) ∧ Below w.heap.size w w' := by
  have C : ∀ w, _ := fun w => Check_any r 3 w
  rw [hc] at C
  clear hc
  obtain ⟨a0, p0, a1, p1, a2, p2, a3, p3, m, g⟩ := r
  obtain ⟨b0, q0, b1, q1, b2, q2, b3, q3, n, k⟩ := r'
  replace hm : b3.size ≤ 1048576 := hm
  change Calls _ _ _ _ (fun e w' => e = .returned (.tuple #[.agg (Rf.cells ⟨b0, q0, b1, q1, b2, q2, b3, (b3.size : Nat), n, k⟩), .int .i64 0]) ∧ Below w.heap.size w w')
  unfold Rf.cells at *
  dsimp only at *
  go_enter Try.func64, Try.ntmps64
  go_wp2_with fail
  go_region_with (first | (go_at_call 67; refine (C _).mono ?_; rintro e w1 ⟨rfl, rfl⟩) | (go_at_call 72; refine (S _).mono ?_; rintro e w1 ⟨rfl, o1, o2, rfl⟩))
  all_goals go_wp2_with fail
  all_goals refine bodyPost_ret (res2 Try.results64 _ (w.heap.size + 1) ⟨b0, q0, b1, q1, b2, q2, b3, (b3.size : Nat), n, k⟩ _ _ rfl rfl ?_) rfl ⟨rfl, (bel5 _ _ _ _ _ _).drew⟩
  all_goals exact at5 _ _ _ _ _ _

theorem Sync_any (r : Rf) (i : Int) (w : World) (hf : r.Fits) : Calls Try.prog 64 #[.agg r.cells, .int .i64 i] w fun e w' => e = .returned (.tuple #[.agg (syn r i).1.cells, .int .i64 (syn r i).2]) ∧ Below w.heap.size w w' := by
  obtain ⟨r', e', hs, ha, hp, S⟩ := hid_spe r (chk r i) hf.2.2.2.2
  unfold syn
  rw [hs]
  dsimp only
  by_cases he : e' = 0
  · subst he
    rw [if_neg (by omega)]
    by_cases hc : chk r i = 0
    · rw [hc] at S
      have hm : (r'.a i).size ≤ 1048576 := by rw [ha]; exact Rf.a_max hf i
      obtain rfl | rfl | rfl | rfl := chk_file hc
      · exact Sync_at0 r r' w hm hc S
      · exact Sync_at1 r r' w hm hc S
      · exact Sync_at2 r r' w hm hc S
      · exact Sync_at3 r r' w hm hc S
    · rw [spe_not _ _ hc] at hs
      exact absurd (Prod.mk.inj hs).2 hc
  · rw [if_pos he]
    exact Sync_no r i _ r' e' w rfl S he
end Go.Proofs.Ytejfdiiennnjjaa.R
