/- The document's disk (lombardref06): what Append computes. -/
import Derived.Test.YtejfdiiennnjjaaRa
namespace Go.Proofs.Ytejfdiiennnjjaa.R
open Go.RowKit Go.Proofs Go.Proofs.Ytejfdiiennnjjaa
set_option linter.unusedVariables false

def Rf.Fits (r : Rf) : Prop := r.a0.size ≤ 1048576 ∧ r.a1.size ≤ 1048576 ∧ r.a2.size ≤ 1048576 ∧ r.a3.size ≤ 1048576 ∧ r.limit ≤ 9223372036854775807
theorem chk_file {r : Rf} {i : Int} (h : chk r i = 0) : i = 0 ∨ i = 1 ∨ i = 2 ∨ i = 3 := by
  unfold chk at h
  split at h
  · omega
  · split at h
    · omega
    · omega
theorem spe_a (r : Rf) (e : Int) (i : Int) : (spe r e).1.a i = r.a i := by unfold spe; (repeat' split) <;> rfl
theorem spe_p (r : Rf) (e : Int) (i : Int) : (spe r e).1.p i = r.p i := by unfold spe; (repeat' split) <;> rfl
theorem spe_not (r : Rf) (e : Int) (h : ¬ e = 0) : spe r e = (r, e) := by unfold spe; rw [if_pos h]
theorem Rf.a_max {r : Rf} (h : r.Fits) (i : Int) : (r.a i).size ≤ 1048576 := by
  obtain ⟨h0, h1, h2, h3, _⟩ := h
  unfold Rf.a
  split
  · exact h0
  · split
    · exact h1
    · split
      · exact h2
      · exact h3
theorem at5 (w : World) (o1 o2 o3 o4 o5 : Obj) : (((((w.alloc o1).alloc o2).alloc o3).alloc o4).alloc o5).heap[w.heap.size + 1]? = some o2 := by
  rw [Below.heap_alloc _ _ _ (by first | (simp; done) | (simp; omega)), Below.heap_alloc _ _ _ (by first | (simp; done) | (simp; omega)), Below.heap_alloc _ _ _ (by simp)]
  exact at2 _ _ _
theorem bel5 (w : World) (o1 o2 o3 o4 o5 : Obj) : Below w.heap.size w (((((w.alloc o1).alloc o2).alloc o3).alloc o4).alloc o5) :=
  (((((Below.refl _ _).alloc (Nat.le_refl _) _).alloc (by simp) _).alloc (by simp; omega) _).alloc (by simp; omega) _).alloc (by simp; omega) _
theorem hid_spe (r : Rf) (e : Int) (h : r.limit ≤ 9223372036854775807) : ∃ r' e', spe r e = (r', e') ∧ (∀ i, r'.a i = r.a i) ∧ (∀ i, r'.p i = r.p i) ∧ ∀ w : World, Calls Try.prog 72 #[.agg r.cells, .int .i64 e] w fun x w' => x = .returned (.tuple #[.agg r'.cells, .int .i64 e']) ∧ ∃ o1 o2, w' = (w.alloc o1).alloc o2 :=
  ⟨_, _, rfl, spe_a r e, spe_p r e, fun w => spent_any r e w h⟩

def appE (r : Rf) (i : Int) (s : ByteArray) : Int := if ¬ chk r i = 0 then chk r i else if 1048576 - ((r.a i).size : Int) < (s.size : Int) then 18 else 0
def app (r : Rf) (i : Int) (s : ByteArray) : Rf × Int := if ¬ (spe r (appE r i s)).2 = 0 then spe r (appE r i s) else ((spe r (appE r i s)).1.setA i ((spe r (appE r i s)).1.a i ++ s), 0)

set_option maxRecDepth 100000 in
theorem Append_bad (r : Rf) (i : Int) (s : ByteArray) (w : World) (hf : r.Fits) (hc : ¬ chk r i = 0) : Calls Try.prog 63 #[.agg r.cells, .int .i64 i, .string s] w fun e w' => e = .returned (.tuple #[.agg r.cells, .int .i64 (chk r i)]) ∧ Below w.heap.size w w' := by
  have C : ∀ w, _ := fun w => Check_any r i w
  have S : ∀ w, _ := fun w => spent_any r (chk r i) w hf.2.2.2.2
  rw [spe_not _ _ hc] at S
  clear hf
  generalize chk r i = e at *
  obtain ⟨a0, p0, a1, p1, a2, p2, a3, p3, m, g⟩ := r
  unfold Rf.cells at *
  dsimp only at *
  go_enter Try.func63, Try.ntmps63
  go_wp2_with fail
  refine (C _).mono ?_; rintro e w1 ⟨rfl, rfl⟩
  go_wp2_with fail
  refine (S _).mono ?_; rintro e w1 ⟨rfl, o1, o2, rfl⟩
  go_wp2_with fail
  refine bodyPost_ret (res2 Try.results63 _ (w.heap.size + 1) ⟨a0, p0, a1, p1, a2, p2, a3, p3, m, g⟩ _ _ rfl rfl ?_) rfl ⟨rfl, bel5 _ _ _ _ _ _⟩
  exact at5 _ _ _ _ _ _

set_option maxRecDepth 100000 in
theorem Append_at0 (r : Rf) (s : ByteArray) (w : World) (hf : r.Fits) (hc : chk r 0 = 0) : Calls Try.prog 63 #[.agg r.cells, .int .i64 0, .string s] w fun e w' => e = .returned (.tuple #[.agg (app r 0 s).1.cells, .int .i64 (app r 0 s).2]) ∧ Below w.heap.size w w' := by
  have C : ∀ w, _ := fun w => Check_any r 0 w
  rw [hc] at C
  have hm : (r.a 0).size ≤ 1048576 := Rf.a_max hf 0
  obtain ⟨r', e', hs, ha, hp, S⟩ := hid_spe r (appE r 0 s) hf.2.2.2.2
  have ha := ha 0
  unfold app
  rw [hs]
  dsimp only
  have hE : appE r 0 s = if 1048576 - ((r.a 0).size : Int) < (s.size : Int) then 18 else 0 := by unfold appE; rw [if_neg (not_not_intro hc)]
  by_cases hfull : 1048576 - ((r.a 0).size : Int) < (s.size : Int)
  · rw [if_pos hfull] at hE
    rw [hE] at S hs
    rw [spe_not _ _ (by omega)] at hs
    obtain ⟨rfl, rfl⟩ := Prod.mk.inj hs
    rw [if_pos (by omega)]
    clear hs hE ha hp hc hf
    obtain ⟨a0, p0, a1, p1, a2, p2, a3, p3, m, g⟩ := r
    replace hm : a0.size ≤ 1048576 := hm
    replace hfull : 1048576 - (a0.size : Int) < (s.size : Int) := hfull
    unfold Rf.cells at *
    dsimp only at *
    go_enter Try.func63, Try.ntmps63
    go_wp2_with fail
    refine (C _).mono ?_; rintro e w1 ⟨rfl, rfl⟩
    go_wp2_with fail
    refine (S _).mono ?_; rintro e w1 ⟨rfl, o1, o2, rfl⟩
    go_wp2_with fail
    refine bodyPost_ret (res2 Try.results63 _ (w.heap.size + 1) ⟨a0, p0, a1, p1, a2, p2, a3, p3, m, g⟩ _ _ rfl rfl ?_) rfl ⟨rfl, bel5 _ _ _ _ _ _⟩
    exact at5 _ _ _ _ _ _
  · rw [if_neg hfull] at hE
    rw [hE] at S
    clear hs hE hp hc hf
    by_cases he : e' = 0
    · subst he
      rw [if_neg (by omega)]
      obtain ⟨a0, p0, a1, p1, a2, p2, a3, p3, m, g⟩ := r
      obtain ⟨b0, q0, b1, q1, b2, q2, b3, q3, n, k⟩ := r'
      replace ha : b0 = a0 := ha
      replace hm : a0.size ≤ 1048576 := hm
      replace hfull : ¬ 1048576 - (a0.size : Int) < (s.size : Int) := hfull
      have hz : ¬ 9223372036854775807 < b0.size + s.size := by rw [ha]; omega
      change Calls _ _ _ _ (fun e w' => e = .returned (.tuple #[.agg (Rf.cells ⟨b0 ++ s, q0, b1, q1, b2, q2, b3, q3, n, k⟩), .int .i64 0]) ∧ Below w.heap.size w w')
      clear ha
      unfold Rf.cells at *
      dsimp only at *
      go_enter Try.func63, Try.ntmps63
      go_wp2_with fail
      refine (C _).mono ?_; rintro e w1 ⟨rfl, rfl⟩
      go_wp2_with fail
      refine (S _).mono ?_; rintro e w1 ⟨rfl, o1, o2, rfl⟩
      go_wp2_with fail
      refine bodyPost_ret (res2 Try.results63 _ (w.heap.size + 1) ⟨b0 ++ s, q0, b1, q1, b2, q2, b3, q3, n, k⟩ _ _ rfl rfl ?_) rfl ⟨rfl, bel5 _ _ _ _ _ _⟩
      exact at5 _ _ _ _ _ _
    · rw [if_pos he]
      obtain ⟨a0, p0, a1, p1, a2, p2, a3, p3, m, g⟩ := r
      obtain ⟨b0, q0, b1, q1, b2, q2, b3, q3, n, k⟩ := r'
      replace hm : a0.size ≤ 1048576 := hm
      replace hfull : ¬ 1048576 - (a0.size : Int) < (s.size : Int) := hfull
      clear ha
      unfold Rf.cells at *
      dsimp only at *
      go_enter Try.func63, Try.ntmps63
      go_wp2_with fail
      refine (C _).mono ?_; rintro e w1 ⟨rfl, rfl⟩
      go_wp2_with fail
      refine (S _).mono ?_; rintro e w1 ⟨rfl, o1, o2, rfl⟩
      go_wp2_with fail
      refine bodyPost_ret (res2 Try.results63 _ (w.heap.size + 1) ⟨b0, q0, b1, q1, b2, q2, b3, q3, n, k⟩ _ _ rfl rfl ?_) rfl ⟨rfl, bel5 _ _ _ _ _ _⟩
      exact at5 _ _ _ _ _ _

set_option maxRecDepth 100000 in
theorem Append_at1 (r : Rf) (s : ByteArray) (w : World) (hf : r.Fits) (hc : chk r 1 = 0) : Calls Try.prog 63 #[.agg r.cells, .int .i64 1, .string s] w fun e w' => e = .returned (.tuple #[.agg (app r 1 s).1.cells, .int .i64 (app r 1 s).2]) ∧ Below w.heap.size w w' := by
  have C : ∀ w, _ := fun w => Check_any r 1 w
  rw [hc] at C
  have hm : (r.a 1).size ≤ 1048576 := Rf.a_max hf 1
  obtain ⟨r', e', hs, ha, hp, S⟩ := hid_spe r (appE r 1 s) hf.2.2.2.2
  have ha := ha 1
  unfold app
  rw [hs]
  dsimp only
  have hE : appE r 1 s = if 1048576 - ((r.a 1).size : Int) < (s.size : Int) then 18 else 0 := by unfold appE; rw [if_neg (not_not_intro hc)]
  by_cases hfull : 1048576 - ((r.a 1).size : Int) < (s.size : Int)
  · rw [if_pos hfull] at hE
    rw [hE] at S hs
    rw [spe_not _ _ (by omega)] at hs
    obtain ⟨rfl, rfl⟩ := Prod.mk.inj hs
    rw [if_pos (by omega)]
    clear hs hE ha hp hc hf
    obtain ⟨a0, p0, a1, p1, a2, p2, a3, p3, m, g⟩ := r
    replace hm : a1.size ≤ 1048576 := hm
    replace hfull : 1048576 - (a1.size : Int) < (s.size : Int) := hfull
    unfold Rf.cells at *
    dsimp only at *
    go_enter Try.func63, Try.ntmps63
    go_wp2_with fail
    refine (C _).mono ?_; rintro e w1 ⟨rfl, rfl⟩
    go_wp2_with fail
    refine (S _).mono ?_; rintro e w1 ⟨rfl, o1, o2, rfl⟩
    go_wp2_with fail
    refine bodyPost_ret (res2 Try.results63 _ (w.heap.size + 1) ⟨a0, p0, a1, p1, a2, p2, a3, p3, m, g⟩ _ _ rfl rfl ?_) rfl ⟨rfl, bel5 _ _ _ _ _ _⟩
    exact at5 _ _ _ _ _ _
  · rw [if_neg hfull] at hE
    rw [hE] at S
    clear hs hE hp hc hf
    by_cases he : e' = 0
    · subst he
      rw [if_neg (by omega)]
      obtain ⟨a0, p0, a1, p1, a2, p2, a3, p3, m, g⟩ := r
      obtain ⟨b0, q0, b1, q1, b2, q2, b3, q3, n, k⟩ := r'
      replace ha : b1 = a1 := ha
      replace hm : a1.size ≤ 1048576 := hm
      replace hfull : ¬ 1048576 - (a1.size : Int) < (s.size : Int) := hfull
      have hz : ¬ 9223372036854775807 < b1.size + s.size := by rw [ha]; omega
      change Calls _ _ _ _ (fun e w' => e = .returned (.tuple #[.agg (Rf.cells ⟨b0, q0, b1 ++ s, q1, b2, q2, b3, q3, n, k⟩), .int .i64 0]) ∧ Below w.heap.size w w')
      clear ha
      unfold Rf.cells at *
      dsimp only at *
      go_enter Try.func63, Try.ntmps63
      go_wp2_with fail
      refine (C _).mono ?_; rintro e w1 ⟨rfl, rfl⟩
      go_wp2_with fail
      refine (S _).mono ?_; rintro e w1 ⟨rfl, o1, o2, rfl⟩
      go_wp2_with fail
      refine bodyPost_ret (res2 Try.results63 _ (w.heap.size + 1) ⟨b0, q0, b1 ++ s, q1, b2, q2, b3, q3, n, k⟩ _ _ rfl rfl ?_) rfl ⟨rfl, bel5 _ _ _ _ _ _⟩
      exact at5 _ _ _ _ _ _
    · rw [if_pos he]
      obtain ⟨a0, p0, a1, p1, a2, p2, a3, p3, m, g⟩ := r
      obtain ⟨b0, q0, b1, q1, b2, q2, b3, q3, n, k⟩ := r'
      replace hm : a1.size ≤ 1048576 := hm
      replace hfull : ¬ 1048576 - (a1.size : Int) < (s.size : Int) := hfull
      clear ha
      unfold Rf.cells at *
      dsimp only at *
      go_enter Try.func63, Try.ntmps63
      go_wp2_with fail
      refine (C _).mono ?_; rintro e w1 ⟨rfl, rfl⟩
      go_wp2_with fail
      refine (S _).mono ?_; rintro e w1 ⟨rfl, o1, o2, rfl⟩
      go_wp2_with fail
      refine bodyPost_ret (res2 Try.results63 _ (w.heap.size + 1) ⟨b0, q0, b1, q1, b2, q2, b3, q3, n, k⟩ _ _ rfl rfl ?_) rfl ⟨rfl, bel5 _ _ _ _ _ _⟩
      exact at5 _ _ _ _ _ _

set_option maxRecDepth 100000 in
theorem Append_at2 (r : Rf) (s : ByteArray) (w : World) (hf : r.Fits) (hc : chk r 2 = 0) : Calls Try.prog 63 #[.agg r.cells, .int .i64 2, .string s] w fun e w' => e = .returned (.tuple #[.agg (app r 2 s).1.cells, .int .i64 (app r 2 s).2]) ∧ Below w.heap.size w w' := by
  have C : ∀ w, _ := fun w => Check_any r 2 w
  rw [hc] at C
  have hm : (r.a 2).size ≤ 1048576 := Rf.a_max hf 2
  obtain ⟨r', e', hs, ha, hp, S⟩ := hid_spe r (appE r 2 s) hf.2.2.2.2
  have ha := ha 2
  unfold app
  rw [hs]
  dsimp only
  have hE : appE r 2 s = if 1048576 - ((r.a 2).size : Int) < (s.size : Int) then 18 else 0 := by unfold appE; rw [if_neg (not_not_intro hc)]
  by_cases hfull : 1048576 - ((r.a 2).size : Int) < (s.size : Int)
  · rw [if_pos hfull] at hE
    rw [hE] at S hs
    rw [spe_not _ _ (by omega)] at hs
    obtain ⟨rfl, rfl⟩ := Prod.mk.inj hs
    rw [if_pos (by omega)]
    clear hs hE ha hp hc hf
    obtain ⟨a0, p0, a1, p1, a2, p2, a3, p3, m, g⟩ := r
    replace hm : a2.size ≤ 1048576 := hm
    replace hfull : 1048576 - (a2.size : Int) < (s.size : Int) := hfull
    unfold Rf.cells at *
    dsimp only at *
    go_enter Try.func63, Try.ntmps63
    go_wp2_with fail
    refine (C _).mono ?_; rintro e w1 ⟨rfl, rfl⟩
    go_wp2_with fail
    refine (S _).mono ?_; rintro e w1 ⟨rfl, o1, o2, rfl⟩
    go_wp2_with fail
    refine bodyPost_ret (res2 Try.results63 _ (w.heap.size + 1) ⟨a0, p0, a1, p1, a2, p2, a3, p3, m, g⟩ _ _ rfl rfl ?_) rfl ⟨rfl, bel5 _ _ _ _ _ _⟩
    exact at5 _ _ _ _ _ _
  · rw [if_neg hfull] at hE
    rw [hE] at S
    clear hs hE hp hc hf
    by_cases he : e' = 0
    · subst he
      rw [if_neg (by omega)]
      obtain ⟨a0, p0, a1, p1, a2, p2, a3, p3, m, g⟩ := r
      obtain ⟨b0, q0, b1, q1, b2, q2, b3, q3, n, k⟩ := r'
      replace ha : b2 = a2 := ha
      replace hm : a2.size ≤ 1048576 := hm
      replace hfull : ¬ 1048576 - (a2.size : Int) < (s.size : Int) := hfull
      have hz : ¬ 9223372036854775807 < b2.size + s.size := by rw [ha]; omega
      change Calls _ _ _ _ (fun e w' => e = .returned (.tuple #[.agg (Rf.cells ⟨b0, q0, b1, q1, b2 ++ s, q2, b3, q3, n, k⟩), .int .i64 0]) ∧ Below w.heap.size w w')
      clear ha
      unfold Rf.cells at *
      dsimp only at *
      go_enter Try.func63, Try.ntmps63
      go_wp2_with fail
      refine (C _).mono ?_; rintro e w1 ⟨rfl, rfl⟩
      go_wp2_with fail
      refine (S _).mono ?_; rintro e w1 ⟨rfl, o1, o2, rfl⟩
      go_wp2_with fail
      refine bodyPost_ret (res2 Try.results63 _ (w.heap.size + 1) ⟨b0, q0, b1, q1, b2 ++ s, q2, b3, q3, n, k⟩ _ _ rfl rfl ?_) rfl ⟨rfl, bel5 _ _ _ _ _ _⟩
      exact at5 _ _ _ _ _ _
    · rw [if_pos he]
      obtain ⟨a0, p0, a1, p1, a2, p2, a3, p3, m, g⟩ := r
      obtain ⟨b0, q0, b1, q1, b2, q2, b3, q3, n, k⟩ := r'
      replace hm : a2.size ≤ 1048576 := hm
      replace hfull : ¬ 1048576 - (a2.size : Int) < (s.size : Int) := hfull
      clear ha
      unfold Rf.cells at *
      dsimp only at *
      go_enter Try.func63, Try.ntmps63
      go_wp2_with fail
      refine (C _).mono ?_; rintro e w1 ⟨rfl, rfl⟩
      go_wp2_with fail
      refine (S _).mono ?_; rintro e w1 ⟨rfl, o1, o2, rfl⟩
      go_wp2_with fail
      refine bodyPost_ret (res2 Try.results63 _ (w.heap.size + 1) ⟨b0, q0, b1, q1, b2, q2, b3, q3, n, k⟩ _ _ rfl rfl ?_) rfl ⟨rfl, bel5 _ _ _ _ _ _⟩
      exact at5 _ _ _ _ _ _

set_option maxRecDepth 100000 in
theorem Append_at3 (r : Rf) (s : ByteArray) (w : World) (hf : r.Fits) (hc : chk r 3 = 0) : Calls Try.prog 63 #[.agg r.cells, .int .i64 3, .string s] w fun e w' => e = .returned (.tuple #[.agg (app r 3 s).1.cells, .int .i64 (app r 3 s).2]) ∧ Below w.heap.size w w' := by
  have C : ∀ w, _ := fun w => Check_any r 3 w
  rw [hc] at C
  have hm : (r.a 3).size ≤ 1048576 := Rf.a_max hf 3
  obtain ⟨r', e', hs, ha, hp, S⟩ := hid_spe r (appE r 3 s) hf.2.2.2.2
  have ha := ha 3
  unfold app
  rw [hs]
  dsimp only
  have hE : appE r 3 s = if 1048576 - ((r.a 3).size : Int) < (s.size : Int) then 18 else 0 := by unfold appE; rw [if_neg (not_not_intro hc)]
  by_cases hfull : 1048576 - ((r.a 3).size : Int) < (s.size : Int)
  · rw [if_pos hfull] at hE
    rw [hE] at S hs
    rw [spe_not _ _ (by omega)] at hs
    obtain ⟨rfl, rfl⟩ := Prod.mk.inj hs
    rw [if_pos (by omega)]
    clear hs hE ha hp hc hf
    obtain ⟨a0, p0, a1, p1, a2, p2, a3, p3, m, g⟩ := r
    replace hm : a3.size ≤ 1048576 := hm
    replace hfull : 1048576 - (a3.size : Int) < (s.size : Int) := hfull
    unfold Rf.cells at *
    dsimp only at *
    go_enter Try.func63, Try.ntmps63
    go_wp2_with fail
    refine (C _).mono ?_; rintro e w1 ⟨rfl, rfl⟩
    go_wp2_with fail
    refine (S _).mono ?_; rintro e w1 ⟨rfl, o1, o2, rfl⟩
    go_wp2_with fail
    refine bodyPost_ret (res2 Try.results63 _ (w.heap.size + 1) ⟨a0, p0, a1, p1, a2, p2, a3, p3, m, g⟩ _ _ rfl rfl ?_) rfl ⟨rfl, bel5 _ _ _ _ _ _⟩
    exact at5 _ _ _ _ _ _
  · rw [if_neg hfull] at hE
    rw [hE] at S
    clear hs hE hp hc hf
    by_cases he : e' = 0
    · subst he
      rw [if_neg (by omega)]
      obtain ⟨a0, p0, a1, p1, a2, p2, a3, p3, m, g⟩ := r
      obtain ⟨b0, q0, b1, q1, b2, q2, b3, q3, n, k⟩ := r'
      replace ha : b3 = a3 := ha
      replace hm : a3.size ≤ 1048576 := hm
      replace hfull : ¬ 1048576 - (a3.size : Int) < (s.size : Int) := hfull
      have hz : ¬ 9223372036854775807 < b3.size + s.size := by rw [ha]; omega
      change Calls _ _ _ _ (fun e w' => e = .returned (.tuple #[.agg (Rf.cells ⟨b0, q0, b1, q1, b2, q2, b3 ++ s, q3, n, k⟩), .int .i64 0]) ∧ Below w.heap.size w w')
      clear ha
      unfold Rf.cells at *
      dsimp only at *
      go_enter Try.func63, Try.ntmps63
      go_wp2_with fail
      refine (C _).mono ?_; rintro e w1 ⟨rfl, rfl⟩
      go_wp2_with fail
      refine (S _).mono ?_; rintro e w1 ⟨rfl, o1, o2, rfl⟩
      go_wp2_with fail
      refine bodyPost_ret (res2 Try.results63 _ (w.heap.size + 1) ⟨b0, q0, b1, q1, b2, q2, b3 ++ s, q3, n, k⟩ _ _ rfl rfl ?_) rfl ⟨rfl, bel5 _ _ _ _ _ _⟩
      exact at5 _ _ _ _ _ _
    · rw [if_pos he]
      obtain ⟨a0, p0, a1, p1, a2, p2, a3, p3, m, g⟩ := r
      obtain ⟨b0, q0, b1, q1, b2, q2, b3, q3, n, k⟩ := r'
      replace hm : a3.size ≤ 1048576 := hm
      replace hfull : ¬ 1048576 - (a3.size : Int) < (s.size : Int) := hfull
      clear ha
      unfold Rf.cells at *
      dsimp only at *
      go_enter Try.func63, Try.ntmps63
      go_wp2_with fail
      refine (C _).mono ?_; rintro e w1 ⟨rfl, rfl⟩
      go_wp2_with fail
      refine (S _).mono ?_; rintro e w1 ⟨rfl, o1, o2, rfl⟩
      go_wp2_with fail
      refine bodyPost_ret (res2 Try.results63 _ (w.heap.size + 1) ⟨b0, q0, b1, q1, b2, q2, b3, q3, n, k⟩ _ _ rfl rfl ?_) rfl ⟨rfl, bel5 _ _ _ _ _ _⟩
      exact at5 _ _ _ _ _ _

theorem Append_any (r : Rf) (i : Int) (s : ByteArray) (w : World) (hf : r.Fits) : Calls Try.prog 63 #[.agg r.cells, .int .i64 i, .string s] w fun e w' => e = .returned (.tuple #[.agg (app r i s).1.cells, .int .i64 (app r i s).2]) ∧ Below w.heap.size w w' := by
  by_cases hc : chk r i = 0
  · obtain rfl | rfl | rfl | rfl := chk_file hc
    · exact Append_at0 r s w hf hc
    · exact Append_at1 r s w hf hc
    · exact Append_at2 r s w hf hc
    · exact Append_at3 r s w hf hc
  · have h1 : appE r i s = chk r i := by unfold appE; rw [if_pos hc]
    have h2 : app r i s = (r, chk r i) := by unfold app; rw [h1, spe_not _ _ hc, if_pos hc]
    rw [h2]
    exact Append_bad r i s w hf hc
end Go.Proofs.Ytejfdiiennnjjaa.R
