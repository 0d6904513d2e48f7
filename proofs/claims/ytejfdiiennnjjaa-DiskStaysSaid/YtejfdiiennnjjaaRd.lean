/- The document's disk (lombardref06): what Cut computes. -/
import Derived.Test.YtejfdiiennnjjaaRb
namespace Go.Proofs.Ytejfdiiennnjjaa.R
open Go.RowKit Go.Proofs Go.Proofs.Ytejfdiiennnjjaa
set_option linter.unusedVariables false

def cutE (r : Rf) (i n : Int) : Int := if ¬ chk r i = 0 then chk r i else if n < 0 ∨ ((r.a i).size : Int) < n then 1 else 0
def cut1 (r : Rf) (i n : Int) : Rf := r.setA i ((r.a i).extract 0 n.toNat)
def cut (r : Rf) (i n : Int) : Rf × Int := if ¬ (spe r (cutE r i n)).2 = 0 then spe r (cutE r i n) else (if n < (cut1 (spe r (cutE r i n)).1 i n).p i then (cut1 (spe r (cutE r i n)).1 i n).setP i n else cut1 (spe r (cutE r i n)).1 i n, 0)

set_option maxRecDepth 100000 in
theorem Cut_bad (r : Rf) (i n : Int) (w : World) (hf : r.Fits) (hc : ¬ chk r i = 0) : Calls Try.prog 65 #[.agg r.cells, .int .i64 i, .int .i64 n] w fun e w' => e = .returned (.tuple #[.agg r.cells, .int .i64 (chk r i)]) ∧ Below w.heap.size w w' := by
  have C : ∀ w, _ := fun w => Check_any r i w
  have S : ∀ w, _ := fun w => spent_any r (chk r i) w hf.2.2.2.2
  rw [spe_not _ _ hc] at S
  clear hf
  generalize chk r i = e at *
  obtain ⟨a0, p0, a1, p1, a2, p2, a3, p3, m, g⟩ := r
  unfold Rf.cells at *
  dsimp only at *
  go_enter Try.func65, Try.ntmps65
  go_wp2_with fail
  refine (C _).mono ?_; rintro e w1 ⟨rfl, rfl⟩
  go_wp2_with fail
  refine (S _).mono ?_; rintro e w1 ⟨rfl, o1, o2, rfl⟩
  go_wp2_with fail
  refine bodyPost_ret (res2 Try.results65 _ (w.heap.size + 1) ⟨a0, p0, a1, p1, a2, p2, a3, p3, m, g⟩ _ _ rfl rfl ?_) rfl ⟨rfl, bel5 _ _ _ _ _ _⟩
  exact at5 _ _ _ _ _ _

set_option maxRecDepth 100000 in
set_option maxHeartbeats 4000000 in
theorem Cut_at0 (r : Rf) (n : Int) (w : World) (hf : r.Fits) (hc : chk r 0 = 0) : Calls Try.prog 65 #[.agg r.cells, .int .i64 0, .int .i64 n] w fun e w' => e = .returned (.tuple #[.agg (cut r 0 n).1.cells, .int .i64 (cut r 0 n).2]) ∧ Below w.heap.size w w' := by
  have C : ∀ w, _ := fun w => Check_any r 0 w
  rw [hc] at C
  have hm : (r.a 0).size ≤ 1048576 := Rf.a_max hf 0
  obtain ⟨r', e', hs, ha, hp, S⟩ := hid_spe r (cutE r 0 n) hf.2.2.2.2
  have ha := ha 0
  unfold cut
  rw [hs]
  dsimp only
  have hE : cutE r 0 n = if n < 0 ∨ ((r.a 0).size : Int) < n then 1 else 0 := by unfold cutE; rw [if_neg (not_not_intro hc)]
  by_cases hn0 : n < 0
  · rw [if_pos (Or.inl hn0)] at hE
    rw [hE] at S hs
    rw [spe_not _ _ (by omega)] at hs
    obtain ⟨rfl, rfl⟩ := Prod.mk.inj hs
    rw [if_pos (by omega)]
    clear hs hE ha hp hc hf
    obtain ⟨a0, p0, a1, p1, a2, p2, a3, p3, m, g⟩ := r
    unfold Rf.cells at *
    dsimp only at *
    go_enter Try.func65, Try.ntmps65
    go_wp2_with fail
    refine (C _).mono ?_; rintro e w1 ⟨rfl, rfl⟩
    go_wp2_with fail
    refine (S _).mono ?_; rintro e w1 ⟨rfl, o1, o2, rfl⟩
    go_wp2_with fail
    refine bodyPost_ret (res2 Try.results65 _ (w.heap.size + 1) ⟨a0, p0, a1, p1, a2, p2, a3, p3, m, g⟩ _ _ rfl rfl ?_) rfl ⟨rfl, bel5 _ _ _ _ _ _⟩
    exact at5 _ _ _ _ _ _
  · by_cases hn1 : ((r.a 0).size : Int) < n
    · rw [if_pos (Or.inr hn1)] at hE
      rw [hE] at S hs
      rw [spe_not _ _ (by omega)] at hs
      obtain ⟨rfl, rfl⟩ := Prod.mk.inj hs
      rw [if_pos (by omega)]
      clear hs hE ha hp hc hf
      obtain ⟨a0, p0, a1, p1, a2, p2, a3, p3, m, g⟩ := r
      replace hn1 : (a0.size : Int) < n := hn1
      unfold Rf.cells at *
      dsimp only at *
      go_enter Try.func65, Try.ntmps65
      go_wp2_with fail
      refine (C _).mono ?_; rintro e w1 ⟨rfl, rfl⟩
      go_wp2_with fail
      refine (S _).mono ?_; rintro e w1 ⟨rfl, o1, o2, rfl⟩
      go_wp2_with fail
      refine bodyPost_ret (res2 Try.results65 _ (w.heap.size + 1) ⟨a0, p0, a1, p1, a2, p2, a3, p3, m, g⟩ _ _ rfl rfl ?_) rfl ⟨rfl, bel5 _ _ _ _ _ _⟩
      exact at5 _ _ _ _ _ _
    · rw [if_neg (by omega)] at hE
      rw [hE] at S
      clear hs hE hp hc hf
      by_cases he : e' = 0
      · subst he
        rw [if_neg (by omega)]
        obtain ⟨a0, p0, a1, p1, a2, p2, a3, p3, m, g⟩ := r
        obtain ⟨b0, q0, b1, q1, b2, q2, b3, q3, l, k⟩ := r'
        replace ha : b0 = a0 := ha
        replace hm : b0.size ≤ 1048576 := by rw [ha]; exact hm
        replace hn1 : ¬ (b0.size : Int) < n := by rw [ha]; exact hn1
        have hn2 : ¬ (a0.size : Int) < n := by rw [← ha]; exact hn1
        clear ha
        by_cases hq : n < q0
        · rw [if_pos (show n < (cut1 ⟨b0, q0, b1, q1, b2, q2, b3, q3, l, k⟩ 0 n).p 0 from hq)]
          change Calls _ _ _ _ (fun e w' => e = .returned (.tuple #[.agg (Rf.cells ⟨b0.extract 0 n.toNat, n, b1, q1, b2, q2, b3, q3, l, k⟩), .int .i64 0]) ∧ Below w.heap.size w w')
          unfold Rf.cells at *
          dsimp only at *
          go_enter Try.func65, Try.ntmps65
          go_wp2_with fail
          refine (C _).mono ?_; rintro e w1 ⟨rfl, rfl⟩
          go_wp2_with fail
          refine (S _).mono ?_; rintro e w1 ⟨rfl, o1, o2, rfl⟩
          go_wp2_with fail
          refine bodyPost_ret (res2 Try.results65 _ (w.heap.size + 1) ⟨b0.extract 0 n.toNat, n, b1, q1, b2, q2, b3, q3, l, k⟩ _ _ rfl rfl ?_) rfl ⟨rfl, bel5 _ _ _ _ _ _⟩
          exact at5 _ _ _ _ _ _
        · rw [if_neg (show ¬ n < (cut1 ⟨b0, q0, b1, q1, b2, q2, b3, q3, l, k⟩ 0 n).p 0 from hq)]
          change Calls _ _ _ _ (fun e w' => e = .returned (.tuple #[.agg (Rf.cells ⟨b0.extract 0 n.toNat, q0, b1, q1, b2, q2, b3, q3, l, k⟩), .int .i64 0]) ∧ Below w.heap.size w w')
          unfold Rf.cells at *
          dsimp only at *
          go_enter Try.func65, Try.ntmps65
          go_wp2_with fail
          refine (C _).mono ?_; rintro e w1 ⟨rfl, rfl⟩
          go_wp2_with fail
          refine (S _).mono ?_; rintro e w1 ⟨rfl, o1, o2, rfl⟩
          go_wp2_with fail
          refine bodyPost_ret (res2 Try.results65 _ (w.heap.size + 1) ⟨b0.extract 0 n.toNat, q0, b1, q1, b2, q2, b3, q3, l, k⟩ _ _ rfl rfl ?_) rfl ⟨rfl, bel5 _ _ _ _ _ _⟩
          exact at5 _ _ _ _ _ _
      · rw [if_pos he]
        obtain ⟨a0, p0, a1, p1, a2, p2, a3, p3, m, g⟩ := r
        obtain ⟨b0, q0, b1, q1, b2, q2, b3, q3, l, k⟩ := r'
        replace hn1 : ¬ (a0.size : Int) < n := hn1
        clear ha
        unfold Rf.cells at *
        dsimp only at *
        go_enter Try.func65, Try.ntmps65
        go_wp2_with fail
        refine (C _).mono ?_; rintro e w1 ⟨rfl, rfl⟩
        go_wp2_with fail
        refine (S _).mono ?_; rintro e w1 ⟨rfl, o1, o2, rfl⟩
        go_wp2_with fail
        refine bodyPost_ret (res2 Try.results65 _ (w.heap.size + 1) ⟨b0, q0, b1, q1, b2, q2, b3, q3, l, k⟩ _ _ rfl rfl ?_) rfl ⟨rfl, bel5 _ _ _ _ _ _⟩
        exact at5 _ _ _ _ _ _

set_option maxRecDepth 100000 in
set_option maxHeartbeats 4000000 in
theorem Cut_at1 (r : Rf) (n : Int) (w : World) (hf : r.Fits) (hc : chk r 1 = 0) : Calls Try.prog 65 #[.agg r.cells, .int .i64 1, .int .i64 n] w fun e w' => e = .returned (.tuple #[.agg (cut r 1 n).1.cells, .int .i64 (cut r 1 n).2]) ∧ Below w.heap.size w w' := by
  have C : ∀ w, _ := fun w => Check_any r 1 w
  rw [hc] at C
  have hm : (r.a 1).size ≤ 1048576 := Rf.a_max hf 1
  obtain ⟨r', e', hs, ha, hp, S⟩ := hid_spe r (cutE r 1 n) hf.2.2.2.2
  have ha := ha 1
  unfold cut
  rw [hs]
  dsimp only
  have hE : cutE r 1 n = if n < 0 ∨ ((r.a 1).size : Int) < n then 1 else 0 := by unfold cutE; rw [if_neg (not_not_intro hc)]
  by_cases hn0 : n < 0
  · rw [if_pos (Or.inl hn0)] at hE
    rw [hE] at S hs
    rw [spe_not _ _ (by omega)] at hs
    obtain ⟨rfl, rfl⟩ := Prod.mk.inj hs
    rw [if_pos (by omega)]
    clear hs hE ha hp hc hf
    obtain ⟨a0, p0, a1, p1, a2, p2, a3, p3, m, g⟩ := r
    unfold Rf.cells at *
    dsimp only at *
    go_enter Try.func65, Try.ntmps65
    go_wp2_with fail
    refine (C _).mono ?_; rintro e w1 ⟨rfl, rfl⟩
    go_wp2_with fail
    refine (S _).mono ?_; rintro e w1 ⟨rfl, o1, o2, rfl⟩
    go_wp2_with fail
    refine bodyPost_ret (res2 Try.results65 _ (w.heap.size + 1) ⟨a0, p0, a1, p1, a2, p2, a3, p3, m, g⟩ _ _ rfl rfl ?_) rfl ⟨rfl, bel5 _ _ _ _ _ _⟩
    exact at5 _ _ _ _ _ _
  · by_cases hn1 : ((r.a 1).size : Int) < n
    · rw [if_pos (Or.inr hn1)] at hE
      rw [hE] at S hs
      rw [spe_not _ _ (by omega)] at hs
      obtain ⟨rfl, rfl⟩ := Prod.mk.inj hs
      rw [if_pos (by omega)]
      clear hs hE ha hp hc hf
      obtain ⟨a0, p0, a1, p1, a2, p2, a3, p3, m, g⟩ := r
      replace hn1 : (a1.size : Int) < n := hn1
      unfold Rf.cells at *
      dsimp only at *
      go_enter Try.func65, Try.ntmps65
      go_wp2_with fail
      refine (C _).mono ?_; rintro e w1 ⟨rfl, rfl⟩
      go_wp2_with fail
      refine (S _).mono ?_; rintro e w1 ⟨rfl, o1, o2, rfl⟩
      go_wp2_with fail
      refine bodyPost_ret (res2 Try.results65 _ (w.heap.size + 1) ⟨a0, p0, a1, p1, a2, p2, a3, p3, m, g⟩ _ _ rfl rfl ?_) rfl ⟨rfl, bel5 _ _ _ _ _ _⟩
      exact at5 _ _ _ _ _ _
    · rw [if_neg (by omega)] at hE
      rw [hE] at S
      clear hs hE hp hc hf
      by_cases he : e' = 0
      · subst he
        rw [if_neg (by omega)]
        obtain ⟨a0, p0, a1, p1, a2, p2, a3, p3, m, g⟩ := r
        obtain ⟨b0, q0, b1, q1, b2, q2, b3, q3, l, k⟩ := r'
        replace ha : b1 = a1 := ha
        replace hm : b1.size ≤ 1048576 := by rw [ha]; exact hm
        replace hn1 : ¬ (b1.size : Int) < n := by rw [ha]; exact hn1
        have hn2 : ¬ (a1.size : Int) < n := by rw [← ha]; exact hn1
        clear ha
        by_cases hq : n < q1
        · rw [if_pos (show n < (cut1 ⟨b0, q0, b1, q1, b2, q2, b3, q3, l, k⟩ 1 n).p 1 from hq)]
          change Calls _ _ _ _ (fun e w' => e = .returned (.tuple #[.agg (Rf.cells ⟨b0, q0, b1.extract 0 n.toNat, n, b2, q2, b3, q3, l, k⟩), .int .i64 0]) ∧ Below w.heap.size w w')
          unfold Rf.cells at *
          dsimp only at *
          go_enter Try.func65, Try.ntmps65
          go_wp2_with fail
          refine (C _).mono ?_; rintro e w1 ⟨rfl, rfl⟩
          go_wp2_with fail
          refine (S _).mono ?_; rintro e w1 ⟨rfl, o1, o2, rfl⟩
          go_wp2_with fail
          refine bodyPost_ret (res2 Try.results65 _ (w.heap.size + 1) ⟨b0, q0, b1.extract 0 n.toNat, n, b2, q2, b3, q3, l, k⟩ _ _ rfl rfl ?_) rfl ⟨rfl, bel5 _ _ _ _ _ _⟩
          exact at5 _ _ _ _ _ _
        · rw [if_neg (show ¬ n < (cut1 ⟨b0, q0, b1, q1, b2, q2, b3, q3, l, k⟩ 1 n).p 1 from hq)]
          change Calls _ _ _ _ (fun e w' => e = .returned (.tuple #[.agg (Rf.cells ⟨b0, q0, b1.extract 0 n.toNat, q1, b2, q2, b3, q3, l, k⟩), .int .i64 0]) ∧ Below w.heap.size w w')
          unfold Rf.cells at *
          dsimp only at *
          go_enter Try.func65, Try.ntmps65
          go_wp2_with fail
          refine (C _).mono ?_; rintro e w1 ⟨rfl, rfl⟩
          go_wp2_with fail
          refine (S _).mono ?_; rintro e w1 ⟨rfl, o1, o2, rfl⟩
          go_wp2_with fail
          refine bodyPost_ret (res2 Try.results65 _ (w.heap.size + 1) ⟨b0, q0, b1.extract 0 n.toNat, q1, b2, q2, b3, q3, l, k⟩ _ _ rfl rfl ?_) rfl ⟨rfl, bel5 _ _ _ _ _ _⟩
          exact at5 _ _ _ _ _ _
      · rw [if_pos he]
        obtain ⟨a0, p0, a1, p1, a2, p2, a3, p3, m, g⟩ := r
        obtain ⟨b0, q0, b1, q1, b2, q2, b3, q3, l, k⟩ := r'
        replace hn1 : ¬ (a1.size : Int) < n := hn1
        clear ha
        unfold Rf.cells at *
        dsimp only at *
        go_enter Try.func65, Try.ntmps65
        go_wp2_with fail
        refine (C _).mono ?_; rintro e w1 ⟨rfl, rfl⟩
        go_wp2_with fail
        refine (S _).mono ?_; rintro e w1 ⟨rfl, o1, o2, rfl⟩
        go_wp2_with fail
        refine bodyPost_ret (res2 Try.results65 _ (w.heap.size + 1) ⟨b0, q0, b1, q1, b2, q2, b3, q3, l, k⟩ _ _ rfl rfl ?_) rfl ⟨rfl, bel5 _ _ _ _ _ _⟩
        exact at5 _ _ _ _ _ _

set_option maxRecDepth 100000 in
set_option maxHeartbeats 4000000 in
theorem Cut_at2 (r : Rf) (n : Int) (w : World) (hf : r.Fits) (hc : chk r 2 = 0) : Calls Try.prog 65 #[.agg r.cells, .int .i64 2, .int .i64 n] w fun e w' => e = .returned (.tuple #[.agg (cut r 2 n).1.cells, .int .i64 (cut r 2 n).2]) ∧ Below w.heap.size w w' := by
  have C : ∀ w, _ := fun w => Check_any r 2 w
  rw [hc] at C
  have hm : (r.a 2).size ≤ 1048576 := Rf.a_max hf 2
  obtain ⟨r', e', hs, ha, hp, S⟩ := hid_spe r (cutE r 2 n) hf.2.2.2.2
  have ha := ha 2
  unfold cut
  rw [hs]
  dsimp only
  have hE : cutE r 2 n = if n < 0 ∨ ((r.a 2).size : Int) < n then 1 else 0 := by unfold cutE; rw [if_neg (not_not_intro hc)]
  by_cases hn0 : n < 0
  · rw [if_pos (Or.inl hn0)] at hE
    rw [hE] at S hs
    rw [spe_not _ _ (by omega)] at hs
    obtain ⟨rfl, rfl⟩ := Prod.mk.inj hs
    rw [if_pos (by omega)]
    clear hs hE ha hp hc hf
    obtain ⟨a0, p0, a1, p1, a2, p2, a3, p3, m, g⟩ := r
    unfold Rf.cells at *
    dsimp only at *
    go_enter Try.func65, Try.ntmps65
    go_wp2_with fail
    refine (C _).mono ?_; rintro e w1 ⟨rfl, rfl⟩
    go_wp2_with fail
    refine (S _).mono ?_; rintro e w1 ⟨rfl, o1, o2, rfl⟩
    go_wp2_with fail
    refine bodyPost_ret (res2 Try.results65 _ (w.heap.size + 1) ⟨a0, p0, a1, p1, a2, p2, a3, p3, m, g⟩ _ _ rfl rfl ?_) rfl ⟨rfl, bel5 _ _ _ _ _ _⟩
    exact at5 _ _ _ _ _ _
  · by_cases hn1 : ((r.a 2).size : Int) < n
    · rw [if_pos (Or.inr hn1)] at hE
      rw [hE] at S hs
      rw [spe_not _ _ (by omega)] at hs
      obtain ⟨rfl, rfl⟩ := Prod.mk.inj hs
      rw [if_pos (by omega)]
      clear hs hE ha hp hc hf
      obtain ⟨a0, p0, a1, p1, a2, p2, a3, p3, m, g⟩ := r
      replace hn1 : (a2.size : Int) < n := hn1
      unfold Rf.cells at *
      dsimp only at *
      go_enter Try.func65, Try.ntmps65
      go_wp2_with fail
      refine (C _).mono ?_; rintro e w1 ⟨rfl, rfl⟩
      go_wp2_with fail
      refine (S _).mono ?_; rintro e w1 ⟨rfl, o1, o2, rfl⟩
      go_wp2_with fail
      refine bodyPost_ret (res2 Try.results65 _ (w.heap.size + 1) ⟨a0, p0, a1, p1, a2, p2, a3, p3, m, g⟩ _ _ rfl rfl ?_) rfl ⟨rfl, bel5 _ _ _ _ _ _⟩
      exact at5 _ _ _ _ _ _
    · rw [if_neg (by omega)] at hE
      rw [hE] at S
      clear hs hE hp hc hf
      by_cases he : e' = 0
      · subst he
        rw [if_neg (by omega)]
        obtain ⟨a0, p0, a1, p1, a2, p2, a3, p3, m, g⟩ := r
        obtain ⟨b0, q0, b1, q1, b2, q2, b3, q3, l, k⟩ := r'
        replace ha : b2 = a2 := ha
        replace hm : b2.size ≤ 1048576 := by rw [ha]; exact hm
        replace hn1 : ¬ (b2.size : Int) < n := by rw [ha]; exact hn1
        have hn2 : ¬ (a2.size : Int) < n := by rw [← ha]; exact hn1
        clear ha
        by_cases hq : n < q2
        · rw [if_pos (show n < (cut1 ⟨b0, q0, b1, q1, b2, q2, b3, q3, l, k⟩ 2 n).p 2 from hq)]
          change Calls _ _ _ _ (fun e w' => e = .returned (.tuple #[.agg (Rf.cells ⟨b0, q0, b1, q1, b2.extract 0 n.toNat, n, b3, q3, l, k⟩), .int .i64 0]) ∧ Below w.heap.size w w')
          unfold Rf.cells at *
          dsimp only at *
          go_enter Try.func65, Try.ntmps65
          go_wp2_with fail
          refine (C _).mono ?_; rintro e w1 ⟨rfl, rfl⟩
          go_wp2_with fail
          refine (S _).mono ?_; rintro e w1 ⟨rfl, o1, o2, rfl⟩
          go_wp2_with fail
          refine bodyPost_ret (res2 Try.results65 _ (w.heap.size + 1) ⟨b0, q0, b1, q1, b2.extract 0 n.toNat, n, b3, q3, l, k⟩ _ _ rfl rfl ?_) rfl ⟨rfl, bel5 _ _ _ _ _ _⟩
          exact at5 _ _ _ _ _ _
        · rw [if_neg (show ¬ n < (cut1 ⟨b0, q0, b1, q1, b2, q2, b3, q3, l, k⟩ 2 n).p 2 from hq)]
          change Calls _ _ _ _ (fun e w' => e = .returned (.tuple #[.agg (Rf.cells ⟨b0, q0, b1, q1, b2.extract 0 n.toNat, q2, b3, q3, l, k⟩), .int .i64 0]) ∧ Below w.heap.size w w')
          unfold Rf.cells at *
          dsimp only at *
          go_enter Try.func65, Try.ntmps65
          go_wp2_with fail
          refine (C _).mono ?_; rintro e w1 ⟨rfl, rfl⟩
          go_wp2_with fail
          refine (S _).mono ?_; rintro e w1 ⟨rfl, o1, o2, rfl⟩
          go_wp2_with fail
          refine bodyPost_ret (res2 Try.results65 _ (w.heap.size + 1) ⟨b0, q0, b1, q1, b2.extract 0 n.toNat, q2, b3, q3, l, k⟩ _ _ rfl rfl ?_) rfl ⟨rfl, bel5 _ _ _ _ _ _⟩
          exact at5 _ _ _ _ _ _
      · rw [if_pos he]
        obtain ⟨a0, p0, a1, p1, a2, p2, a3, p3, m, g⟩ := r
        obtain ⟨b0, q0, b1, q1, b2, q2, b3, q3, l, k⟩ := r'
        replace hn1 : ¬ (a2.size : Int) < n := hn1
        clear ha
        unfold Rf.cells at *
        dsimp only at *
        go_enter Try.func65, Try.ntmps65
        go_wp2_with fail
        refine (C _).mono ?_; rintro e w1 ⟨rfl, rfl⟩
        go_wp2_with fail
        refine (S _).mono ?_; rintro e w1 ⟨rfl, o1, o2, rfl⟩
        go_wp2_with fail
        refine bodyPost_ret (res2 Try.results65 _ (w.heap.size + 1) ⟨b0, q0, b1, q1, b2, q2, b3, q3, l, k⟩ _ _ rfl rfl ?_) rfl ⟨rfl, bel5 _ _ _ _ _ _⟩
        exact at5 _ _ _ _ _ _

set_option maxRecDepth 100000 in
set_option maxHeartbeats 4000000 in
theorem Cut_at3 (r : Rf) (n : Int) (w : World) (hf : r.Fits) (hc : chk r 3 = 0) : Calls Try.prog 65 #[.agg r.cells, .int .i64 3, .int .i64 n] w fun e w' => e = .returned (.tuple #[.agg (cut r 3 n).1.cells, .int .i64 (cut r 3 n).2]) ∧ Below w.heap.size w w' := by
  have C : ∀ w, _ := fun w => Check_any r 3 w
  rw [hc] at C
  have hm : (r.a 3).size ≤ 1048576 := Rf.a_max hf 3
  obtain ⟨r', e', hs, ha, hp, S⟩ := hid_spe r (cutE r 3 n) hf.2.2.2.2
  have ha := ha 3
  unfold cut
  rw [hs]
  dsimp only
  have hE : cutE r 3 n = if n < 0 ∨ ((r.a 3).size : Int) < n then 1 else 0 := by unfold cutE; rw [if_neg (not_not_intro hc)]
  by_cases hn0 : n < 0
  · rw [if_pos (Or.inl hn0)] at hE
    rw [hE] at S hs
    rw [spe_not _ _ (by omega)] at hs
    obtain ⟨rfl, rfl⟩ := Prod.mk.inj hs
    rw [if_pos (by omega)]
    clear hs hE ha hp hc hf
    obtain ⟨a0, p0, a1, p1, a2, p2, a3, p3, m, g⟩ := r
    unfold Rf.cells at *
    dsimp only at *
    go_enter Try.func65, Try.ntmps65
    go_wp2_with fail
    refine (C _).mono ?_; rintro e w1 ⟨rfl, rfl⟩
    go_wp2_with fail
    refine (S _).mono ?_; rintro e w1 ⟨rfl, o1, o2, rfl⟩
    go_wp2_with fail
    refine bodyPost_ret (res2 Try.results65 _ (w.heap.size + 1) ⟨a0, p0, a1, p1, a2, p2, a3, p3, m, g⟩ _ _ rfl rfl ?_) rfl ⟨rfl, bel5 _ _ _ _ _ _⟩
    exact at5 _ _ _ _ _ _
  · by_cases hn1 : ((r.a 3).size : Int) < n
    · rw [if_pos (Or.inr hn1)] at hE
      rw [hE] at S hs
      rw [spe_not _ _ (by omega)] at hs
      obtain ⟨rfl, rfl⟩ := Prod.mk.inj hs
      rw [if_pos (by omega)]
      clear hs hE ha hp hc hf
      obtain ⟨a0, p0, a1, p1, a2, p2, a3, p3, m, g⟩ := r
      replace hn1 : (a3.size : Int) < n := hn1
      unfold Rf.cells at *
      dsimp only at *
      go_enter Try.func65, Try.ntmps65
      go_wp2_with fail
      refine (C _).mono ?_; rintro e w1 ⟨rfl, rfl⟩
      go_wp2_with fail
      refine (S _).mono ?_; rintro e w1 ⟨rfl, o1, o2, rfl⟩
      go_wp2_with fail
      refine bodyPost_ret (res2 Try.results65 _ (w.heap.size + 1) ⟨a0, p0, a1, p1, a2, p2, a3, p3, m, g⟩ _ _ rfl rfl ?_) rfl ⟨rfl, bel5 _ _ _ _ _ _⟩
      exact at5 _ _ _ _ _ _
    · rw [if_neg (by omega)] at hE
      rw [hE] at S
      clear hs hE hp hc hf
      by_cases he : e' = 0
      · subst he
        rw [if_neg (by omega)]
        obtain ⟨a0, p0, a1, p1, a2, p2, a3, p3, m, g⟩ := r
        obtain ⟨b0, q0, b1, q1, b2, q2, b3, q3, l, k⟩ := r'
        replace ha : b3 = a3 := ha
        replace hm : b3.size ≤ 1048576 := by rw [ha]; exact hm
        replace hn1 : ¬ (b3.size : Int) < n := by rw [ha]; exact hn1
        have hn2 : ¬ (a3.size : Int) < n := by rw [← ha]; exact hn1
        clear ha
        by_cases hq : n < q3
        · rw [if_pos (show n < (cut1 ⟨b0, q0, b1, q1, b2, q2, b3, q3, l, k⟩ 3 n).p 3 from hq)]
          change Calls _ _ _ _ (fun e w' => e = .returned (.tuple #[.agg (Rf.cells ⟨b0, q0, b1, q1, b2, q2, b3.extract 0 n.toNat, n, l, k⟩), .int .i64 0]) ∧ Below w.heap.size w w')
          unfold Rf.cells at *
          dsimp only at *
          go_enter Try.func65, Try.ntmps65
          go_wp2_with fail
          refine (C _).mono ?_; rintro e w1 ⟨rfl, rfl⟩
          go_wp2_with fail
          refine (S _).mono ?_; rintro e w1 ⟨rfl, o1, o2, rfl⟩
          go_wp2_with fail
          refine bodyPost_ret (res2 Try.results65 _ (w.heap.size + 1) ⟨b0, q0, b1, q1, b2, q2, b3.extract 0 n.toNat, n, l, k⟩ _ _ rfl rfl ?_) rfl ⟨rfl, bel5 _ _ _ _ _ _⟩
          exact at5 _ _ _ _ _ _
        · rw [if_neg (show ¬ n < (cut1 ⟨b0, q0, b1, q1, b2, q2, b3, q3, l, k⟩ 3 n).p 3 from hq)]
          change Calls _ _ _ _ (fun e w' => e = .returned (.tuple #[.agg (Rf.cells ⟨b0, q0, b1, q1, b2, q2, b3.extract 0 n.toNat, q3, l, k⟩), .int .i64 0]) ∧ Below w.heap.size w w')
          unfold Rf.cells at *
          dsimp only at *
          go_enter Try.func65, Try.ntmps65
          go_wp2_with fail
          refine (C _).mono ?_; rintro e w1 ⟨rfl, rfl⟩
          go_wp2_with fail
          refine (S _).mono ?_; rintro e w1 ⟨rfl, o1, o2, rfl⟩
          go_wp2_with fail
          refine bodyPost_ret (res2 Try.results65 _ (w.heap.size + 1) ⟨b0, q0, b1, q1, b2, q2, b3.extract 0 n.toNat, q3, l, k⟩ _ _ rfl rfl ?_) rfl ⟨rfl, bel5 _ _ _ _ _ _⟩
          exact at5 _ _ _ _ _ _
      · rw [if_pos he]
        obtain ⟨a0, p0, a1, p1, a2, p2, a3, p3, m, g⟩ := r
        obtain ⟨b0, q0, b1, q1, b2, q2, b3, q3, l, k⟩ := r'
        replace hn1 : ¬ (a3.size : Int) < n := hn1
        clear ha
        unfold Rf.cells at *
        dsimp only at *
        go_enter Try.func65, Try.ntmps65
        go_wp2_with fail
        refine (C _).mono ?_; rintro e w1 ⟨rfl, rfl⟩
        go_wp2_with fail
        refine (S _).mono ?_; rintro e w1 ⟨rfl, o1, o2, rfl⟩
        go_wp2_with fail
        refine bodyPost_ret (res2 Try.results65 _ (w.heap.size + 1) ⟨b0, q0, b1, q1, b2, q2, b3, q3, l, k⟩ _ _ rfl rfl ?_) rfl ⟨rfl, bel5 _ _ _ _ _ _⟩
        exact at5 _ _ _ _ _ _

theorem Cut_any (r : Rf) (i n : Int) (w : World) (hf : r.Fits) : Calls Try.prog 65 #[.agg r.cells, .int .i64 i, .int .i64 n] w fun e w' => e = .returned (.tuple #[.agg (cut r i n).1.cells, .int .i64 (cut r i n).2]) ∧ Below w.heap.size w w' := by
  by_cases hc : chk r i = 0
  · obtain rfl | rfl | rfl | rfl := chk_file hc
    · exact Cut_at0 r n w hf hc
    · exact Cut_at1 r n w hf hc
    · exact Cut_at2 r n w hf hc
    · exact Cut_at3 r n w hf hc
  · have h1 : cutE r i n = chk r i := by unfold cutE; rw [if_pos hc]
    have h2 : cut r i n = (r, chk r i) := by unfold cut; rw [h1, spe_not _ _ hc, if_pos hc]
    rw [h2]
    exact Cut_bad r i n w hf hc
end Go.Proofs.Ytejfdiiennnjjaa.R
