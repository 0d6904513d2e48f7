/- Lean functions that answer as the Go functions do, and the proof of that, function by function, for every input at which the Lean function has an answer. Written by a program of this session (the print, turned: NOTES.md). -/
import Derived.Test.YtabnpmojccepcaaIx0
import Derived.Test.YtabnpmojccepcaaIx1
namespace Go.Proofs.Ytabnpmojccepcaa.I
open Go.RowKit Go.Proofs.YtabnpmojccepcaaW.PrintWords Go.Proofs.YtabnpmojccepcaaW.PrintLast Go.Proofs.YtabnpmojccepcaaW.PrintMore
attribute [local go_sem] max2_int min2_int max_two min_two max_three min_three max_four min_four   -- for this text's walks alone
set_option linter.unusedVariables false
set_option linter.unusedSimpArgs false

/-! ### isin_Check: function 10 -/
def isin_Check.j0 : Nat → ByteArray → Bool → Option (Int)
  | 0, _, _ => none
  | k + 1, x0, x13 => if x13 = true then (some 11) else (if 0 ≤ 11 then (if 11 ≤ (x0.size : Int) then ((isin_Digit.f k (x0.extract 0 11)).bind fun bt129 => (if bt129.2 = 0 then (if 11 < (x0.size : Int) then (if bt129.1 = (bt x0 11) then (some bt129.2) else (some 12)) else (none)) else (some bt129.2))) else (none)) else (none))
def isin_Check.f (k : Nat) (a0 : ByteArray) : Option (Int) := if (a0.size : Int) = 12 then (if 11 < (a0.size : Int) then ((isin_digit.f (bt a0 11)).bind fun t128 => (isin_Check.j0 k a0 (!t128))) else (none)) else (isin_Check.j0 k a0 true)
theorem isin_Check.mono_l : ∀ k, (∀ y0 y1, LeO (isin_Check.j0 k y0 y1) (isin_Check.j0 (k + 1) y0 y1))
  | 0 => fun _ _ r h => by simp [isin_Check.j0] at h
  | k + 1 => by
    have ih0 := isin_Check.mono_l k
    · intro y0 y1
      unfold isin_Check.j0
      repeat' first
      | (with_reducible exact ih0 _ _)
      | (with_reducible exact isin_Digit.mono _ _)
      | (with_reducible exact LeO.refl _)
      | (with_reducible exact LeO.none _)
      | (with_reducible refine LeO.ite ?_ ?_)
      | (with_reducible refine LeO.bind ?_ (fun _ => ?_))
      | exact ih0 _ _
      | exact isin_Digit.mono _ _
      | exact LeO.none _
      | refine LeO.ite ?_ ?_
      | refine LeO.bind ?_ (fun _ => ?_)
theorem isin_Check.mono : ∀ a0 k, LeO (isin_Check.f k a0) (isin_Check.f (k + 1) a0) := by
  intro a0 k
  have ih0 := isin_Check.mono_l k
  unfold isin_Check.f
  repeat' first
      | (with_reducible exact ih0 _ _)
      | (with_reducible exact isin_Digit.mono _ _)
      | (with_reducible exact LeO.refl _)
      | (with_reducible exact LeO.none _)
      | (with_reducible refine LeO.ite ?_ ?_)
      | (with_reducible refine LeO.bind ?_ (fun _ => ?_))
      | exact ih0 _ _
      | exact isin_Digit.mono _ _
      | exact LeO.none _
      | refine LeO.ite ?_ ?_
      | refine LeO.bind ?_ (fun _ => ?_)
set_option maxHeartbeats 8000000 in
set_option maxRecDepth 100000 in
theorem isin_Check.calls (k : Nat) (a0 : ByteArray) (r : Int) (w : World) (h : isin_Check.f k a0 = some r) :
    Calls Try.prog 10 #[.string a0] w fun e w' => e = .returned (.int .i64 r) ∧ Below w.heap.size w w' := by
  have HB := Aside0.mk (Below.refl w.heap.size w)
  have H : (if (a0.size : Int) = 12 then (if 11 < (a0.size : Int) then ((isin_digit.f (bt a0 11)).bind fun t128 => (isin_Check.j0 k a0 (!t128))) else (none)) else (isin_Check.j0 k a0 true)) = some r := h
  clear h
  have HC2 := Aside0.mk H
  clear H
  go_enter Try.func10, Try.ntmps10
  go_upto_region 1 with (fail)
  go_cut [13] (fun v13 wc => ∃ (kq : Nat) (x13_1 : Bool), v13 = .bool x13_1 ∧ Aside0 (isin_Check.j0 kq a0 x13_1 = some r) ∧ Aside0 (kq ≤ k) ∧ Aside0 (Below w.heap.size w wc))
  case first =>
    have H := HC2.out
    clear HC2
    by_cases c3 : (a0.size : Int) = 12
    · rw [if_pos c3] at H
      have c3b0 : ((a0.size : Int) == 12) = true := beq_iff_eq.mpr c3
      have c3b1 : ((a0.size : Int) != 12) = false := bne_eq_false_iff_eq.mpr c3
      clear c3
      (first | rw [c3b0] | (simp only [i64_w, i32_w]; rw [c3b0]) | skip)
      by_cases c4 : 11 < (a0.size : Int)
      · rw [if_pos c4] at H
        have c4b0 : decide (11 < (a0.size : Int)) = true := decide_eq_true c4
        have c4b1 : decide (11 < a0.size) = true := decide_eq_true (by omega)
        clear c4
        replace H := Option.bind_eq_some_iff.mp H
        obtain ⟨t128, A60, H⟩ := H
        replace H : (isin_Check.j0 k a0 (!t128)) = some r := H
        have A6 := Aside0.mk A60
        clear A60
        have H' := Aside0.mk H
        clear H
        have p5 : 0 ≤ (11 : Int) := (by omega)
        have q5 : 11 < a0.size := (by have : (11 : Int) < (a0.size : Int) := of_decide_eq_true (by first | (with_reducible assumption) | assumption); omega)
        have hx5 : ∀ h : 11 < a0.size, ((a0[11]'h).toNat : Int) = bt a0 11 := bt_at a0 11
        clear p5
        have qi5 : (11 < (a0.size : Int)) = True := eq_true (of_decide_eq_true (by first | (with_reducible assumption) | assumption))
        replace q5 := eq_true q5
        go_wp2_with (first | (go_at_call 25; (with_reducible refine (isin_digit.calls (bt a0 11) t128 _ A6.out).mono ?_); rintro e w' ⟨rfl, ⟨nd, rfl⟩⟩))
        go_meet
        case rel => exact ⟨_, (!t128), (by first | rfl | (simp; done) | (simp [*]; done)), H', ⟨by first | omega | exact Nat.le_refl _⟩, ⟨by repeat (first | (with_reducible first | exact HB.out | apply below_alloc | apply pw_below_drewN | apply below_drew1) | exact HB.out)⟩⟩
      · rw [if_neg c4] at H
        exact absurd H (by simp)
    · rw [if_neg c3] at H
      have c3b0 : ((a0.size : Int) == 12) = false := beq_eq_false_iff_ne.mpr c3
      have c3b1 : ((a0.size : Int) != 12) = true := bne_iff_ne.mpr c3
      (first | rw [c3b0] | (simp only [i64_w, i32_w]; rw [c3b0]) | skip)
      have H' := Aside0.mk H
      clear H
      go_wp2
      go_meet
      case rel => exact ⟨_, (true), (by first | rfl | (simp; done) | (simp [*]; done)), H', ⟨by first | omega | exact Nat.le_refl _⟩, ⟨by repeat (first | (with_reducible first | exact HB.out | apply below_alloc | apply pw_below_drewN | apply below_drew1) | exact HB.out)⟩⟩
  case rest =>
    clear HC2
    try clear c1
    try clear p2
    try clear c3
    try clear c3b0
    try clear c3b1
    try clear c4
    try clear c4b0
    try clear c4b1
    try clear p5
    try clear q5
    try clear hx5
    try clear qi5
    try clear p5
    try clear q5
    obtain ⟨kq, x13_1, rfl, HA, HJ1, HB⟩ := hcut
    cases kq with
    | zero => exact absurd HA.out (by simp [isin_Check.j0])
    | succ kj1 =>
      have H := HA.out
      clear HA
      simp only [isin_Check.j0] at H
      by_cases c7 : x13_1 = true
      · subst c7
        have H1 : (some 11) = some r := by rw [if_pos rfl] at H; exact H
        clear H
        have H := H1
        clear H1
        obtain rfl := Option.some.inj H
        go_wp2
        go_ret
        exact ⟨by first | rfl | (simp [errW_none, errW_some] <;> rfl) | (simp [*, errW_none, errW_some] <;> rfl), by repeat (first | (with_reducible first | exact HB.out | apply below_alloc | apply pw_below_drewN | apply below_drew1) | exact HB.out)⟩
      · replace c7 := Bool.eq_false_iff.mpr c7
        subst c7
        have H1 : (if 0 ≤ 11 then (if 11 ≤ (a0.size : Int) then ((isin_Digit.f kj1 (a0.extract 0 11)).bind fun bt129 => (if bt129.2 = 0 then (if 11 < (a0.size : Int) then (if bt129.1 = (bt a0 11) then (some bt129.2) else (some 12)) else (none)) else (some bt129.2))) else (none)) else (none)) = some r := by rw [if_neg (show ¬ (false = true) by decide)] at H; exact H
        clear H
        have H := H1
        clear H1
        by_cases c8 : 0 ≤ 11
        · rw [if_pos c8] at H
          have c8b0 := eq_true c8
          have c8b1 : decide (0 ≤ 11) = true := decide_eq_true c8
          clear c8
          by_cases c9 : 11 ≤ (a0.size : Int)
          · rw [if_pos c9] at H
            have c9b0 := eq_true c9
            have c9b1 : decide (11 ≤ (a0.size : Int)) = true := decide_eq_true c9
            clear c9
            replace H := Option.bind_eq_some_iff.mp H
            obtain ⟨⟨t129, t130⟩, A100, H⟩ := H
            replace H : (if t130 = 0 then (if 11 < (a0.size : Int) then (if t129 = (bt a0 11) then (some t130) else (some 12)) else (none)) else (some t130)) = some r := H
            have A10 := Aside0.mk A100
            clear A100
            by_cases c11 : t130 = 0
            · rw [if_pos c11] at H
              have c11b0 : (t130 == 0) = true := beq_iff_eq.mpr c11
              have c11b1 : (t130 != 0) = false := bne_eq_false_iff_eq.mpr c11
              clear c11
              by_cases c12 : 11 < (a0.size : Int)
              · rw [if_pos c12] at H
                have c12b0 : decide (11 < (a0.size : Int)) = true := decide_eq_true c12
                have c12b1 : decide (11 < a0.size) = true := decide_eq_true (by omega)
                clear c12
                by_cases c14 : t129 = (bt a0 11)
                · rw [if_pos c14] at H
                  have c14b0 : (t129 == (bt a0 11)) = true := beq_iff_eq.mpr c14
                  have c14b1 : (t129 != (bt a0 11)) = false := bne_eq_false_iff_eq.mpr c14
                  clear c14
                  obtain rfl := Option.some.inj H
                  go_wp2_with (first | ((with_reducible refine gate_callee (f := 8) rfl ?_); refine goesL_ (some 17) rfl rfl Try.func8 (by kernel_rfl) rfl #[.string (a0.extract 0 11)] rfl (by (try simp only [List.map_toArray, List.map_cons, List.map_nil]); first | done | rfl | (simp only [List.length_drop, List.length_take]; rfl)) ?_; (with_reducible refine (isin_Digit.calls kj1 (a0.extract 0 11) t129 t130 _ A10.out).mono ?_); rintro e w15 ⟨rfl, hb⟩; refine ⟨_, rfl, ?_⟩; have n0_ := Aside0.mk (below_step (by repeat (first | (with_reducible first | exact HB.out | apply below_alloc | apply pw_below_drewN | apply below_drew1) | exact HB.out)) hb); clear HB; have HB := n0_; clear n0_; (try clear hb); (try clear hb2); (try clear hk); (try clear hi); have p13 : 0 ≤ (11 : Int) := (by omega); have q13 : 11 < a0.size := (by have : (11 : Int) < (a0.size : Int) := of_decide_eq_true (by first | (with_reducible assumption) | assumption); omega); have hx13 : ∀ h : 11 < a0.size, ((a0[11]'h).toNat : Int) = bt a0 11 := bt_at a0 11; clear p13; have qi13 : (11 < (a0.size : Int)) = True := eq_true (of_decide_eq_true (by first | (with_reducible assumption) | assumption)); replace q13 := eq_true q13))
                  go_ret
                  exact ⟨by first | rfl | (simp [errW_none, errW_some] <;> rfl) | (simp [*, errW_none, errW_some] <;> rfl), by repeat (first | (with_reducible first | exact HB.out | apply below_alloc | apply pw_below_drewN | apply below_drew1) | exact HB.out)⟩
                · rw [if_neg c14] at H
                  have c14b0 : (t129 == (bt a0 11)) = false := beq_eq_false_iff_ne.mpr c14
                  have c14b1 : (t129 != (bt a0 11)) = true := bne_iff_ne.mpr c14
                  obtain rfl := Option.some.inj H
                  go_wp2_with (first | ((with_reducible refine gate_callee (f := 8) rfl ?_); refine goesL_ (some 17) rfl rfl Try.func8 (by kernel_rfl) rfl #[.string (a0.extract 0 11)] rfl (by (try simp only [List.map_toArray, List.map_cons, List.map_nil]); first | done | rfl | (simp only [List.length_drop, List.length_take]; rfl)) ?_; (with_reducible refine (isin_Digit.calls kj1 (a0.extract 0 11) t129 t130 _ A10.out).mono ?_); rintro e w16 ⟨rfl, hb⟩; refine ⟨_, rfl, ?_⟩; have n0_ := Aside0.mk (below_step (by repeat (first | (with_reducible first | exact HB.out | apply below_alloc | apply pw_below_drewN | apply below_drew1) | exact HB.out)) hb); clear HB; have HB := n0_; clear n0_; (try clear hb); (try clear hb2); (try clear hk); (try clear hi); have p13 : 0 ≤ (11 : Int) := (by omega); have q13 : 11 < a0.size := (by have : (11 : Int) < (a0.size : Int) := of_decide_eq_true (by first | (with_reducible assumption) | assumption); omega); have hx13 : ∀ h : 11 < a0.size, ((a0[11]'h).toNat : Int) = bt a0 11 := bt_at a0 11; clear p13; have qi13 : (11 < (a0.size : Int)) = True := eq_true (of_decide_eq_true (by first | (with_reducible assumption) | assumption)); replace q13 := eq_true q13))
                  go_ret
                  exact ⟨by first | rfl | (simp [errW_none, errW_some] <;> rfl) | (simp [*, errW_none, errW_some] <;> rfl), by repeat (first | (with_reducible first | exact HB.out | apply below_alloc | apply pw_below_drewN | apply below_drew1) | exact HB.out)⟩
              · rw [if_neg c12] at H
                exact absurd H (by simp)
            · rw [if_neg c11] at H
              have c11b0 : (t130 == 0) = false := beq_eq_false_iff_ne.mpr c11
              have c11b1 : (t130 != 0) = true := bne_iff_ne.mpr c11
              obtain rfl := Option.some.inj H
              go_wp2_with (first | ((with_reducible refine gate_callee (f := 8) rfl ?_); refine goesL_ (some 17) rfl rfl Try.func8 (by kernel_rfl) rfl #[.string (a0.extract 0 11)] rfl (by (try simp only [List.map_toArray, List.map_cons, List.map_nil]); first | done | rfl | (simp only [List.length_drop, List.length_take]; rfl)) ?_; (with_reducible refine (isin_Digit.calls kj1 (a0.extract 0 11) t129 t130 _ A10.out).mono ?_); rintro e w17 ⟨rfl, hb⟩; refine ⟨_, rfl, ?_⟩; have n0_ := Aside0.mk (below_step (by repeat (first | (with_reducible first | exact HB.out | apply below_alloc | apply pw_below_drewN | apply below_drew1) | exact HB.out)) hb); clear HB; have HB := n0_; clear n0_; (try clear hb); (try clear hb2); (try clear hk); (try clear hi)))
              go_ret
              exact ⟨by first | rfl | (simp [errW_none, errW_some] <;> rfl) | (simp [*, errW_none, errW_some] <;> rfl), by repeat (first | (with_reducible first | exact HB.out | apply below_alloc | apply pw_below_drewN | apply below_drew1) | exact HB.out)⟩
          · rw [if_neg c9] at H
            exact absurd H (by simp)
        · rw [if_neg c8] at H
          exact absurd H (by simp)

/-! ### lombardref05_Check: function 11 -/
def lombardref05_Check.j0 : Nat → ByteArray → Bool → Option (Int)
  | 0, _, _ => none
  | k + 1, x0, x21 => if x21 = true then (some 11) else ((lombardref05_right.f k x0).bind fun t132 => (if t132 = true then (some 0) else (some 12)))
def lombardref05_Check.f (k : Nat) (a0 : ByteArray) : Option (Int) := if (a0.size : Int) = 12 then (if 11 < (a0.size : Int) then (if (bt a0 11) < 48 then (lombardref05_Check.j0 k a0 true) else (if (bt a0 11) > 57 then (lombardref05_Check.j0 k a0 true) else (if 0 ≤ 11 then (if 11 ≤ (a0.size : Int) then ((lombardref05_shaped.f k (a0.extract 0 11)).bind fun t131 => (lombardref05_Check.j0 k a0 (!t131))) else (none)) else (none)))) else (none)) else (lombardref05_Check.j0 k a0 true)
theorem lombardref05_Check.mono_l : ∀ k, (∀ y0 y1, LeO (lombardref05_Check.j0 k y0 y1) (lombardref05_Check.j0 (k + 1) y0 y1))
  | 0 => fun _ _ r h => by simp [lombardref05_Check.j0] at h
  | k + 1 => by
    have ih0 := lombardref05_Check.mono_l k
    · intro y0 y1
      unfold lombardref05_Check.j0
      repeat' first
      | (with_reducible exact ih0 _ _)
      | (with_reducible exact lombardref05_right.mono _ _)
      | (with_reducible exact lombardref05_shaped.mono _ _)
      | (with_reducible exact LeO.refl _)
      | (with_reducible exact LeO.none _)
      | (with_reducible refine LeO.ite ?_ ?_)
      | (with_reducible refine LeO.bind ?_ (fun _ => ?_))
      | exact ih0 _ _
      | exact lombardref05_right.mono _ _
      | exact lombardref05_shaped.mono _ _
      | exact LeO.none _
      | refine LeO.ite ?_ ?_
      | refine LeO.bind ?_ (fun _ => ?_)
theorem lombardref05_Check.mono : ∀ a0 k, LeO (lombardref05_Check.f k a0) (lombardref05_Check.f (k + 1) a0) := by
  intro a0 k
  have ih0 := lombardref05_Check.mono_l k
  unfold lombardref05_Check.f
  repeat' first
      | (with_reducible exact ih0 _ _)
      | (with_reducible exact lombardref05_right.mono _ _)
      | (with_reducible exact lombardref05_shaped.mono _ _)
      | (with_reducible exact LeO.refl _)
      | (with_reducible exact LeO.none _)
      | (with_reducible refine LeO.ite ?_ ?_)
      | (with_reducible refine LeO.bind ?_ (fun _ => ?_))
      | exact ih0 _ _
      | exact lombardref05_right.mono _ _
      | exact lombardref05_shaped.mono _ _
      | exact LeO.none _
      | refine LeO.ite ?_ ?_
      | refine LeO.bind ?_ (fun _ => ?_)
set_option maxHeartbeats 8000000 in
set_option maxRecDepth 100000 in
theorem lombardref05_Check.calls (k : Nat) (a0 : ByteArray) (r : Int) (w : World) (h : lombardref05_Check.f k a0 = some r) :
    Calls Try.prog 11 #[.string a0] w fun e w' => e = .returned (.int .i64 r) ∧ Below w.heap.size w w' := by
  have HB := Aside0.mk (Below.refl w.heap.size w)
  have H : (if (a0.size : Int) = 12 then (if 11 < (a0.size : Int) then (if (bt a0 11) < 48 then (lombardref05_Check.j0 k a0 true) else (if (bt a0 11) > 57 then (lombardref05_Check.j0 k a0 true) else (if 0 ≤ 11 then (if 11 ≤ (a0.size : Int) then ((lombardref05_shaped.f k (a0.extract 0 11)).bind fun t131 => (lombardref05_Check.j0 k a0 (!t131))) else (none)) else (none)))) else (none)) else (lombardref05_Check.j0 k a0 true)) = some r := h
  clear h
  have HC2 := Aside0.mk H
  clear H
  go_enter Try.func11, Try.ntmps11
  go_upto_region 1 with (fail)
  go_cut [21] (fun v21 wc => ∃ (kq : Nat) (x21_1 : Bool), v21 = .bool x21_1 ∧ Aside0 (lombardref05_Check.j0 kq a0 x21_1 = some r) ∧ Aside0 (kq ≤ k) ∧ Aside0 (Below w.heap.size w wc))
  case first =>
    have H := HC2.out
    clear HC2
    by_cases c3 : (a0.size : Int) = 12
    · rw [if_pos c3] at H
      have c3b0 : ((a0.size : Int) == 12) = true := beq_iff_eq.mpr c3
      have c3b1 : ((a0.size : Int) != 12) = false := bne_eq_false_iff_eq.mpr c3
      clear c3
      (first | rw [c3b0] | (simp only [i64_w, i32_w]; rw [c3b0]) | skip)
      by_cases c4 : 11 < (a0.size : Int)
      · rw [if_pos c4] at H
        have c4b0 : decide (11 < (a0.size : Int)) = true := decide_eq_true c4
        have c4b1 : decide (11 < a0.size) = true := decide_eq_true (by omega)
        clear c4
        by_cases c6 : (bt a0 11) < 48
        · rw [if_pos c6] at H
          have c6b0 : decide ((bt a0 11) < 48) = true := decide_eq_true c6
          clear c6
          have H' := Aside0.mk H
          clear H
          have p5 : 0 ≤ (11 : Int) := (by omega)
          have q5 : 11 < a0.size := (by have : (11 : Int) < (a0.size : Int) := of_decide_eq_true (by first | (with_reducible assumption) | assumption); omega)
          have hx5 : ∀ h : 11 < a0.size, ((a0[11]'h).toNat : Int) = bt a0 11 := bt_at a0 11
          clear p5
          have qi5 : (11 < (a0.size : Int)) = True := eq_true (of_decide_eq_true (by first | (with_reducible assumption) | assumption))
          replace q5 := eq_true q5
          go_wp2
          go_meet
          case rel => exact ⟨_, (true), (by first | rfl | (simp; done) | (simp [*]; done)), H', ⟨by first | omega | exact Nat.le_refl _⟩, ⟨by repeat (first | (with_reducible first | exact HB.out | apply below_alloc | apply pw_below_drewN | apply below_drew1) | exact HB.out)⟩⟩
        · rw [if_neg c6] at H
          have c6b0 : decide ((bt a0 11) < 48) = false := decide_eq_false c6
          clear c6
          by_cases c8 : (bt a0 11) > 57
          · rw [if_pos c8] at H
            have c8b0 : decide (57 < (bt a0 11)) = true := decide_eq_true c8
            clear c8
            have H' := Aside0.mk H
            clear H
            have p5 : 0 ≤ (11 : Int) := (by omega)
            have q5 : 11 < a0.size := (by have : (11 : Int) < (a0.size : Int) := of_decide_eq_true (by first | (with_reducible assumption) | assumption); omega)
            have hx5 : ∀ h : 11 < a0.size, ((a0[11]'h).toNat : Int) = bt a0 11 := bt_at a0 11
            clear p5
            have qi5 : (11 < (a0.size : Int)) = True := eq_true (of_decide_eq_true (by first | (with_reducible assumption) | assumption))
            replace q5 := eq_true q5
            have p7 : 0 ≤ (11 : Int) := (by omega)
            have q7 : 11 < a0.size := (by have : (11 : Int) < (a0.size : Int) := of_decide_eq_true (by first | (with_reducible assumption) | assumption); omega)
            have hx7 : ∀ h : 11 < a0.size, ((a0[11]'h).toNat : Int) = bt a0 11 := bt_at a0 11
            clear p7
            have qi7 : (11 < (a0.size : Int)) = True := eq_true (of_decide_eq_true (by first | (with_reducible assumption) | assumption))
            replace q7 := eq_true q7
            go_wp2
            go_meet
            case rel => exact ⟨_, (true), (by first | rfl | (simp; done) | (simp [*]; done)), H', ⟨by first | omega | exact Nat.le_refl _⟩, ⟨by repeat (first | (with_reducible first | exact HB.out | apply below_alloc | apply pw_below_drewN | apply below_drew1) | exact HB.out)⟩⟩
          · rw [if_neg c8] at H
            have c8b0 : decide (57 < (bt a0 11)) = false := decide_eq_false c8
            clear c8
            by_cases c9 : 0 ≤ 11
            · rw [if_pos c9] at H
              have c9b0 := eq_true c9
              have c9b1 : decide (0 ≤ 11) = true := decide_eq_true c9
              clear c9
              by_cases c10 : 11 ≤ (a0.size : Int)
              · rw [if_pos c10] at H
                have c10b0 := eq_true c10
                have c10b1 : decide (11 ≤ (a0.size : Int)) = true := decide_eq_true c10
                clear c10
                replace H := Option.bind_eq_some_iff.mp H
                obtain ⟨t131, A110, H⟩ := H
                replace H : (lombardref05_Check.j0 k a0 (!t131)) = some r := H
                have A11 := Aside0.mk A110
                clear A110
                have H' := Aside0.mk H
                clear H
                have p5 : 0 ≤ (11 : Int) := (by omega)
                have q5 : 11 < a0.size := (by have : (11 : Int) < (a0.size : Int) := of_decide_eq_true (by first | (with_reducible assumption) | assumption); omega)
                have hx5 : ∀ h : 11 < a0.size, ((a0[11]'h).toNat : Int) = bt a0 11 := bt_at a0 11
                clear p5
                have qi5 : (11 < (a0.size : Int)) = True := eq_true (of_decide_eq_true (by first | (with_reducible assumption) | assumption))
                replace q5 := eq_true q5
                have p7 : 0 ≤ (11 : Int) := (by omega)
                have q7 : 11 < a0.size := (by have : (11 : Int) < (a0.size : Int) := of_decide_eq_true (by first | (with_reducible assumption) | assumption); omega)
                have hx7 : ∀ h : 11 < a0.size, ((a0[11]'h).toNat : Int) = bt a0 11 := bt_at a0 11
                clear p7
                have qi7 : (11 < (a0.size : Int)) = True := eq_true (of_decide_eq_true (by first | (with_reducible assumption) | assumption))
                replace q7 := eq_true q7
                go_wp2_with (first | (go_at_call 23; (with_reducible refine (lombardref05_shaped.calls k (a0.extract 0 11) t131 _ A11.out).mono ?_); rintro e w12 ⟨rfl, hb⟩; have n0_ := Aside0.mk (below_step (by repeat (first | (with_reducible first | exact HB.out | apply below_alloc | apply pw_below_drewN | apply below_drew1) | exact HB.out)) hb); clear HB; have HB := n0_; clear n0_; (try clear hb); (try clear hb2); (try clear hk); (try clear hi)))
                go_meet
                case rel => exact ⟨_, (!t131), (by first | rfl | (simp; done) | (simp [*]; done)), H', ⟨by first | omega | exact Nat.le_refl _⟩, ⟨by repeat (first | (with_reducible first | exact HB.out | apply below_alloc | apply pw_below_drewN | apply below_drew1) | exact HB.out)⟩⟩
              · rw [if_neg c10] at H
                exact absurd H (by simp)
            · rw [if_neg c9] at H
              exact absurd H (by simp)
      · rw [if_neg c4] at H
        exact absurd H (by simp)
    · rw [if_neg c3] at H
      have c3b0 : ((a0.size : Int) == 12) = false := beq_eq_false_iff_ne.mpr c3
      have c3b1 : ((a0.size : Int) != 12) = true := bne_iff_ne.mpr c3
      (first | rw [c3b0] | (simp only [i64_w, i32_w]; rw [c3b0]) | skip)
      have H' := Aside0.mk H
      clear H
      go_wp2
      go_meet
      case rel => exact ⟨_, (true), (by first | rfl | (simp; done) | (simp [*]; done)), H', ⟨by first | omega | exact Nat.le_refl _⟩, ⟨by repeat (first | (with_reducible first | exact HB.out | apply below_alloc | apply pw_below_drewN | apply below_drew1) | exact HB.out)⟩⟩
  case rest =>
    clear HC2
    try clear c1
    try clear p2
    try clear c3
    try clear c3b0
    try clear c3b1
    try clear c4
    try clear c4b0
    try clear c4b1
    try clear p5
    try clear q5
    try clear hx5
    try clear qi5
    try clear c6
    try clear c6b0
    try clear p7
    try clear q7
    try clear hx7
    try clear qi7
    try clear c8
    try clear c8b0
    try clear c9
    try clear c9b0
    try clear c9b1
    try clear c10
    try clear c10b0
    try clear c10b1
    try clear c11
    try clear p5
    try clear p7
    try clear q5
    try clear q7
    obtain ⟨kq, x21_1, rfl, HA, HJ1, HB⟩ := hcut
    cases kq with
    | zero => exact absurd HA.out (by simp [lombardref05_Check.j0])
    | succ kj1 =>
      have H := HA.out
      clear HA
      simp only [lombardref05_Check.j0] at H
      by_cases c13 : x21_1 = true
      · subst c13
        have H1 : (some 11) = some r := by rw [if_pos rfl] at H; exact H
        clear H
        have H := H1
        clear H1
        obtain rfl := Option.some.inj H
        go_wp2
        go_ret
        exact ⟨by first | rfl | (simp [errW_none, errW_some] <;> rfl) | (simp [*, errW_none, errW_some] <;> rfl), by repeat (first | (with_reducible first | exact HB.out | apply below_alloc | apply pw_below_drewN | apply below_drew1) | exact HB.out)⟩
      · replace c13 := Bool.eq_false_iff.mpr c13
        subst c13
        have H1 : ((lombardref05_right.f kj1 a0).bind fun t132 => (if t132 = true then (some 0) else (some 12))) = some r := by rw [if_neg (show ¬ (false = true) by decide)] at H; exact H
        clear H
        have H := H1
        clear H1
        replace H := Option.bind_eq_some_iff.mp H
        obtain ⟨t132, A140, H⟩ := H
        replace H : (if t132 = true then (some 0) else (some 12)) = some r := H
        have A14 := Aside0.mk A140
        clear A140
        by_cases c15 : t132 = true
        · subst c15
          have H1 : (some 0) = some r := by rw [if_pos rfl] at H; exact H
          clear H
          have H := H1
          clear H1
          obtain rfl := Option.some.inj H
          go_wp2_with (first | ((with_reducible refine gate_callee (f := 24) rfl ?_); refine goesL_ (some 23) rfl rfl Try.func24 (by kernel_rfl) rfl #[.string a0] rfl (by (try simp only [List.map_toArray, List.map_cons, List.map_nil]); first | done | rfl | (simp only [List.length_drop, List.length_take]; rfl)) ?_; (with_reducible refine (lombardref05_right.calls kj1 a0 true _ A14.out).mono ?_); rintro e w16 ⟨rfl, hb⟩; refine ⟨_, rfl, ?_⟩; have n0_ := Aside0.mk (below_step (by repeat (first | (with_reducible first | exact HB.out | apply below_alloc | apply pw_below_drewN | apply below_drew1) | exact HB.out)) hb); clear HB; have HB := n0_; clear n0_; (try clear hb); (try clear hb2); (try clear hk); (try clear hi)))
          go_ret
          exact ⟨by first | rfl | (simp [errW_none, errW_some] <;> rfl) | (simp [*, errW_none, errW_some] <;> rfl), by repeat (first | (with_reducible first | exact HB.out | apply below_alloc | apply pw_below_drewN | apply below_drew1) | exact HB.out)⟩
        · replace c15 := Bool.eq_false_iff.mpr c15
          subst c15
          have H1 : (some 12) = some r := by rw [if_neg (show ¬ (false = true) by decide)] at H; exact H
          clear H
          have H := H1
          clear H1
          obtain rfl := Option.some.inj H
          go_wp2_with (first | ((with_reducible refine gate_callee (f := 24) rfl ?_); refine goesL_ (some 23) rfl rfl Try.func24 (by kernel_rfl) rfl #[.string a0] rfl (by (try simp only [List.map_toArray, List.map_cons, List.map_nil]); first | done | rfl | (simp only [List.length_drop, List.length_take]; rfl)) ?_; (with_reducible refine (lombardref05_right.calls kj1 a0 false _ A14.out).mono ?_); rintro e w17 ⟨rfl, hb⟩; refine ⟨_, rfl, ?_⟩; have n0_ := Aside0.mk (below_step (by repeat (first | (with_reducible first | exact HB.out | apply below_alloc | apply pw_below_drewN | apply below_drew1) | exact HB.out)) hb); clear HB; have HB := n0_; clear n0_; (try clear hb); (try clear hb2); (try clear hk); (try clear hi)))
          go_ret
          exact ⟨by first | rfl | (simp [errW_none, errW_some] <;> rfl) | (simp [*, errW_none, errW_some] <;> rfl), by repeat (first | (with_reducible first | exact HB.out | apply below_alloc | apply pw_below_drewN | apply below_drew1) | exact HB.out)⟩

/-! ### isin_Make: function 13 -/
def isin_Make.j0 : Nat → ByteArray → ByteArray → Bool → Option (ByteArray × Int)
  | 0, _, _, _ => none
  | k + 1, x0, x1, x16 => if x16 = true then (some ((⟨#[]⟩ : ByteArray), 11)) else (if 0 ≤ (x1.size : Int) then (if (x1.size : Int) ≤ 9 then (if x0.size + ((⟨#[48, 48, 48, 48, 48, 48, 48, 48, 48]⟩ : ByteArray).extract ((x1.size : Int) : Int).toNat (⟨#[48, 48, 48, 48, 48, 48, 48, 48, 48]⟩ : ByteArray).size).size ≤ 9223372036854775807 then (if (x0 ++ ((⟨#[48, 48, 48, 48, 48, 48, 48, 48, 48]⟩ : ByteArray).extract ((x1.size : Int) : Int).toNat (⟨#[48, 48, 48, 48, 48, 48, 48, 48, 48]⟩ : ByteArray).size)).size + x1.size ≤ 9223372036854775807 then ((isin_Digit.f k ((x0 ++ ((⟨#[48, 48, 48, 48, 48, 48, 48, 48, 48]⟩ : ByteArray).extract ((x1.size : Int) : Int).toNat (⟨#[48, 48, 48, 48, 48, 48, 48, 48, 48]⟩ : ByteArray).size)) ++ x1)).bind fun bt133 => (if bt133.2 = 0 then ((some (([bt133.1] : List Int) : List Int)).bind fun y135 => (if ((x0 ++ ((⟨#[48, 48, 48, 48, 48, 48, 48, 48, 48]⟩ : ByteArray).extract ((x1.size : Int) : Int).toNat (⟨#[48, 48, 48, 48, 48, 48, 48, 48, 48]⟩ : ByteArray).size)) ++ x1).size + (strOfNums y135).size ≤ 9223372036854775807 then (some (((x0 ++ ((⟨#[48, 48, 48, 48, 48, 48, 48, 48, 48]⟩ : ByteArray).extract ((x1.size : Int) : Int).toNat (⟨#[48, 48, 48, 48, 48, 48, 48, 48, 48]⟩ : ByteArray).size)) ++ x1) ++ (strOfNums y135), 0)) else (none))) else (some ((⟨#[]⟩ : ByteArray), bt133.2)))) else (none)) else (none)) else (none)) else (none))
def isin_Make.f (k : Nat) (a0 : ByteArray) (a1 : ByteArray) : Option (ByteArray × Int) := if (a0.size : Int) = 2 then (isin_Make.j0 k a0 a1 (decide ((a1.size : Int) > 9))) else (isin_Make.j0 k a0 a1 true)
theorem isin_Make.mono_l : ∀ k, (∀ y0 y1 y2, LeO (isin_Make.j0 k y0 y1 y2) (isin_Make.j0 (k + 1) y0 y1 y2))
  | 0 => fun _ _ _ r h => by simp [isin_Make.j0] at h
  | k + 1 => by
    have ih0 := isin_Make.mono_l k
    · intro y0 y1 y2
      unfold isin_Make.j0
      repeat' first
      | (with_reducible exact ih0 _ _ _)
      | (with_reducible exact isin_Digit.mono _ _)
      | (with_reducible exact LeO.refl _)
      | (with_reducible exact LeO.none _)
      | (with_reducible refine LeO.ite ?_ ?_)
      | (with_reducible refine LeO.bind ?_ (fun _ => ?_))
      | exact ih0 _ _ _
      | exact isin_Digit.mono _ _
      | exact LeO.none _
      | refine LeO.ite ?_ ?_
      | refine LeO.bind ?_ (fun _ => ?_)
theorem isin_Make.mono : ∀ a0 a1 k, LeO (isin_Make.f k a0 a1) (isin_Make.f (k + 1) a0 a1) := by
  intro a0 a1 k
  have ih0 := isin_Make.mono_l k
  unfold isin_Make.f
  repeat' first
      | (with_reducible exact ih0 _ _ _)
      | (with_reducible exact isin_Digit.mono _ _)
      | (with_reducible exact LeO.refl _)
      | (with_reducible exact LeO.none _)
      | (with_reducible refine LeO.ite ?_ ?_)
      | (with_reducible refine LeO.bind ?_ (fun _ => ?_))
      | exact ih0 _ _ _
      | exact isin_Digit.mono _ _
      | exact LeO.none _
      | refine LeO.ite ?_ ?_
      | refine LeO.bind ?_ (fun _ => ?_)
set_option maxHeartbeats 8000000 in
set_option maxRecDepth 100000 in
theorem isin_Make.calls (k : Nat) (a0 : ByteArray) (a1 : ByteArray) (r1 : ByteArray) (r2 : Int) (w : World) (h : isin_Make.f k a0 a1 = some (r1, r2)) :
    Calls Try.prog 13 #[.string a0, .string a1] w fun e w' => e = .returned (.tuple #[.string r1, .int .i64 r2]) ∧ Below w.heap.size w w' := by
  have HB := Aside0.mk (Below.refl w.heap.size w)
  have H : (if (a0.size : Int) = 2 then (isin_Make.j0 k a0 a1 (decide ((a1.size : Int) > 9))) else (isin_Make.j0 k a0 a1 true)) = some (r1, r2) := h
  clear h
  have HC3 := Aside0.mk H
  clear H
  go_enter Try.func13, Try.ntmps13
  go_upto_region 1 with (fail)
  go_cut [16] (fun v16 wc => ∃ (kq : Nat) (x16_2 : Bool), v16 = .bool x16_2 ∧ Aside0 (isin_Make.j0 kq a0 a1 x16_2 = some (r1, r2)) ∧ Aside0 (kq ≤ k) ∧ Aside0 (Below w.heap.size w wc))
  case first =>
    have H := HC3.out
    clear HC3
    by_cases c4 : (a0.size : Int) = 2
    · rw [if_pos c4] at H
      have c4b0 : ((a0.size : Int) == 2) = true := beq_iff_eq.mpr c4
      have c4b1 : ((a0.size : Int) != 2) = false := bne_eq_false_iff_eq.mpr c4
      clear c4
      (first | rw [c4b0] | (simp only [i64_w, i32_w]; rw [c4b0]) | skip)
      have H' := Aside0.mk H
      clear H
      go_wp2
      go_meet
      case rel => exact ⟨_, (decide ((a1.size : Int) > 9)), (by first | rfl | (simp; done) | (simp [*]; done)), H', ⟨by first | omega | exact Nat.le_refl _⟩, ⟨by repeat (first | (with_reducible first | exact HB.out | apply below_alloc | apply pw_below_drewN | apply below_drew1) | exact HB.out)⟩⟩
    · rw [if_neg c4] at H
      have c4b0 : ((a0.size : Int) == 2) = false := beq_eq_false_iff_ne.mpr c4
      have c4b1 : ((a0.size : Int) != 2) = true := bne_iff_ne.mpr c4
      (first | rw [c4b0] | (simp only [i64_w, i32_w]; rw [c4b0]) | skip)
      have H' := Aside0.mk H
      clear H
      go_wp2
      go_meet
      case rel => exact ⟨_, (true), (by first | rfl | (simp; done) | (simp [*]; done)), H', ⟨by first | omega | exact Nat.le_refl _⟩, ⟨by repeat (first | (with_reducible first | exact HB.out | apply below_alloc | apply pw_below_drewN | apply below_drew1) | exact HB.out)⟩⟩
  case rest =>
    clear HC3
    try clear c1
    try clear p2
    try clear c4
    try clear c4b0
    try clear c4b1
    obtain ⟨kq, x16_2, rfl, HA, HJ2, HB⟩ := hcut
    cases kq with
    | zero => exact absurd HA.out (by simp [isin_Make.j0])
    | succ kj2 =>
      have H := HA.out
      clear HA
      simp only [isin_Make.j0] at H
      by_cases c5 : x16_2 = true
      · subst c5
        have H1 : (some ((⟨#[]⟩ : ByteArray), 11)) = some (r1, r2) := by rw [if_pos rfl] at H; exact H
        clear H
        have H := H1
        clear H1
        simp only [Option.some.injEq, Prod.mk.injEq] at H
        obtain ⟨rfl, rfl⟩ := H
        go_wp2
        go_ret2
        exact ⟨by first | rfl | (simp [errW_none, errW_some] <;> rfl) | (simp [*, errW_none, errW_some] <;> rfl), by repeat (first | (with_reducible first | exact HB.out | apply below_alloc | apply pw_below_drewN | apply below_drew1) | exact HB.out)⟩
      · replace c5 := Bool.eq_false_iff.mpr c5
        subst c5
        have H1 : (if 0 ≤ (a1.size : Int) then (if (a1.size : Int) ≤ 9 then (if a0.size + ((⟨#[48, 48, 48, 48, 48, 48, 48, 48, 48]⟩ : ByteArray).extract ((a1.size : Int) : Int).toNat (⟨#[48, 48, 48, 48, 48, 48, 48, 48, 48]⟩ : ByteArray).size).size ≤ 9223372036854775807 then (if (a0 ++ ((⟨#[48, 48, 48, 48, 48, 48, 48, 48, 48]⟩ : ByteArray).extract ((a1.size : Int) : Int).toNat (⟨#[48, 48, 48, 48, 48, 48, 48, 48, 48]⟩ : ByteArray).size)).size + a1.size ≤ 9223372036854775807 then ((isin_Digit.f kj2 ((a0 ++ ((⟨#[48, 48, 48, 48, 48, 48, 48, 48, 48]⟩ : ByteArray).extract ((a1.size : Int) : Int).toNat (⟨#[48, 48, 48, 48, 48, 48, 48, 48, 48]⟩ : ByteArray).size)) ++ a1)).bind fun bt133 => (if bt133.2 = 0 then ((some (([bt133.1] : List Int) : List Int)).bind fun y135 => (if ((a0 ++ ((⟨#[48, 48, 48, 48, 48, 48, 48, 48, 48]⟩ : ByteArray).extract ((a1.size : Int) : Int).toNat (⟨#[48, 48, 48, 48, 48, 48, 48, 48, 48]⟩ : ByteArray).size)) ++ a1).size + (strOfNums y135).size ≤ 9223372036854775807 then (some (((a0 ++ ((⟨#[48, 48, 48, 48, 48, 48, 48, 48, 48]⟩ : ByteArray).extract ((a1.size : Int) : Int).toNat (⟨#[48, 48, 48, 48, 48, 48, 48, 48, 48]⟩ : ByteArray).size)) ++ a1) ++ (strOfNums y135), 0)) else (none))) else (some ((⟨#[]⟩ : ByteArray), bt133.2)))) else (none)) else (none)) else (none)) else (none)) = some (r1, r2) := by rw [if_neg (show ¬ (false = true) by decide)] at H; exact H
        clear H
        have H := H1
        clear H1
        by_cases c6 : 0 ≤ (a1.size : Int)
        · rw [if_pos c6] at H
          have c6b0 := eq_true c6
          have c6b1 : decide (0 ≤ (a1.size : Int)) = true := decide_eq_true c6
          clear c6
          by_cases c7 : (a1.size : Int) ≤ 9
          · rw [if_pos c7] at H
            have c7b0 := eq_true c7
            have c7b1 : decide ((a1.size : Int) ≤ 9) = true := decide_eq_true c7
            clear c7
            by_cases c8 : a0.size + ((⟨#[48, 48, 48, 48, 48, 48, 48, 48, 48]⟩ : ByteArray).extract ((a1.size : Int) : Int).toNat (⟨#[48, 48, 48, 48, 48, 48, 48, 48, 48]⟩ : ByteArray).size).size ≤ 9223372036854775807
            · rw [if_pos c8] at H
              have c8b0 := eq_true c8
              have c8b1 : decide (a0.size + ((⟨#[48, 48, 48, 48, 48, 48, 48, 48, 48]⟩ : ByteArray).extract ((a1.size : Int) : Int).toNat (⟨#[48, 48, 48, 48, 48, 48, 48, 48, 48]⟩ : ByteArray).size).size ≤ 9223372036854775807) = true := decide_eq_true c8
              try have c8b2 : (9223372036854775807 < a0.size + ((⟨#[48, 48, 48, 48, 48, 48, 48, 48, 48]⟩ : ByteArray).extract ((a1.size : Int) : Int).toNat (⟨#[48, 48, 48, 48, 48, 48, 48, 48, 48]⟩ : ByteArray).size).size) = False := eq_false (Nat.not_lt.2 c8)
              try (have c8b3 := Nat.not_lt.2 c8; simp [-Nat.not_lt, Go.ByteArray.size_mk'] at c8b3)
              by_cases c9 : (a0 ++ ((⟨#[48, 48, 48, 48, 48, 48, 48, 48, 48]⟩ : ByteArray).extract ((a1.size : Int) : Int).toNat (⟨#[48, 48, 48, 48, 48, 48, 48, 48, 48]⟩ : ByteArray).size)).size + a1.size ≤ 9223372036854775807
              · rw [if_pos c9] at H
                have c9b0 := eq_true c9
                have c9b1 : decide ((a0 ++ ((⟨#[48, 48, 48, 48, 48, 48, 48, 48, 48]⟩ : ByteArray).extract ((a1.size : Int) : Int).toNat (⟨#[48, 48, 48, 48, 48, 48, 48, 48, 48]⟩ : ByteArray).size)).size + a1.size ≤ 9223372036854775807) = true := decide_eq_true c9
                try have c9b2 : (9223372036854775807 < (a0 ++ ((⟨#[48, 48, 48, 48, 48, 48, 48, 48, 48]⟩ : ByteArray).extract ((a1.size : Int) : Int).toNat (⟨#[48, 48, 48, 48, 48, 48, 48, 48, 48]⟩ : ByteArray).size)).size + a1.size) = False := eq_false (Nat.not_lt.2 c9)
                try (have c9b3 := Nat.not_lt.2 c9; simp [-Nat.not_lt, Go.ByteArray.size_mk'] at c9b3)
                replace H := Option.bind_eq_some_iff.mp H
                obtain ⟨⟨t133, t134⟩, A100, H⟩ := H
                replace H : (if t134 = 0 then ((some (([t133] : List Int) : List Int)).bind fun y135 => (if ((a0 ++ ((⟨#[48, 48, 48, 48, 48, 48, 48, 48, 48]⟩ : ByteArray).extract ((a1.size : Int) : Int).toNat (⟨#[48, 48, 48, 48, 48, 48, 48, 48, 48]⟩ : ByteArray).size)) ++ a1).size + (strOfNums y135).size ≤ 9223372036854775807 then (some (((a0 ++ ((⟨#[48, 48, 48, 48, 48, 48, 48, 48, 48]⟩ : ByteArray).extract ((a1.size : Int) : Int).toNat (⟨#[48, 48, 48, 48, 48, 48, 48, 48, 48]⟩ : ByteArray).size)) ++ a1) ++ (strOfNums y135), 0)) else (none))) else (some ((⟨#[]⟩ : ByteArray), t134))) = some (r1, r2) := H
                have A10 := Aside0.mk A100
                clear A100
                by_cases c11 : t134 = 0
                · rw [if_pos c11] at H
                  have c11b0 : (t134 == 0) = true := beq_iff_eq.mpr c11
                  have c11b1 : (t134 != 0) = false := bne_eq_false_iff_eq.mpr c11
                  clear c11
                  obtain ⟨y135, hy135⟩ : ∃ y_ : List Int, y_ = (([t133] : List Int)) := ⟨_, rfl⟩
                  replace H : (if ((a0 ++ ((⟨#[48, 48, 48, 48, 48, 48, 48, 48, 48]⟩ : ByteArray).extract ((a1.size : Int) : Int).toNat (⟨#[48, 48, 48, 48, 48, 48, 48, 48, 48]⟩ : ByteArray).size)) ++ a1).size + (strOfNums y135).size ≤ 9223372036854775807 then (some (((a0 ++ ((⟨#[48, 48, 48, 48, 48, 48, 48, 48, 48]⟩ : ByteArray).extract ((a1.size : Int) : Int).toNat (⟨#[48, 48, 48, 48, 48, 48, 48, 48, 48]⟩ : ByteArray).size)) ++ a1) ++ (strOfNums y135), 0)) else (none)) = some (r1, r2) := by first | (rw [hy135]; with_reducible exact H) | (have H2_ := (Option.bind_some _ _).symm.trans H; rw [hy135]; with_reducible exact H2_) | (have H2_ := (Option.bind_some _ _).symm.trans H; with_reducible exact H2_) | with_reducible exact H | (rw [hy135]; exact H) | exact H
                  have Ny135 := Aside0.mk hy135
                  clear hy135
                  by_cases c12 : ((a0 ++ ((⟨#[48, 48, 48, 48, 48, 48, 48, 48, 48]⟩ : ByteArray).extract ((a1.size : Int) : Int).toNat (⟨#[48, 48, 48, 48, 48, 48, 48, 48, 48]⟩ : ByteArray).size)) ++ a1).size + (strOfNums y135).size ≤ 9223372036854775807
                  · rw [if_pos c12] at H
                    have c12b0 := eq_true c12
                    have c12b1 : decide (((a0 ++ ((⟨#[48, 48, 48, 48, 48, 48, 48, 48, 48]⟩ : ByteArray).extract ((a1.size : Int) : Int).toNat (⟨#[48, 48, 48, 48, 48, 48, 48, 48, 48]⟩ : ByteArray).size)) ++ a1).size + (strOfNums y135).size ≤ 9223372036854775807) = true := decide_eq_true c12
                    try have c12b2 : (9223372036854775807 < ((a0 ++ ((⟨#[48, 48, 48, 48, 48, 48, 48, 48, 48]⟩ : ByteArray).extract ((a1.size : Int) : Int).toNat (⟨#[48, 48, 48, 48, 48, 48, 48, 48, 48]⟩ : ByteArray).size)) ++ a1).size + (strOfNums y135).size) = False := eq_false (Nat.not_lt.2 c12)
                    try (have c12b3 := Nat.not_lt.2 c12; simp [-Nat.not_lt, Go.ByteArray.size_mk'] at c12b3)
                    simp only [Option.some.injEq, Prod.mk.injEq] at H
                    obtain ⟨rfl, rfl⟩ := H
                    go_wp2_with (first | ((with_reducible refine gate_callee (f := 8) rfl ?_); refine goesL_ (some 26) rfl rfl Try.func8 (by kernel_rfl) rfl #[.string ((a0 ++ ((⟨#[48, 48, 48, 48, 48, 48, 48, 48, 48]⟩ : ByteArray).extract ((a1.size : Int) : Int).toNat (⟨#[48, 48, 48, 48, 48, 48, 48, 48, 48]⟩ : ByteArray).size)) ++ a1)] rfl (by (try simp only [List.map_toArray, List.map_cons, List.map_nil]); first | done | rfl | (simp only [List.length_drop, List.length_take]; rfl)) ?_; (with_reducible refine (isin_Digit.calls kj2 ((a0 ++ ((⟨#[48, 48, 48, 48, 48, 48, 48, 48, 48]⟩ : ByteArray).extract ((a1.size : Int) : Int).toNat (⟨#[48, 48, 48, 48, 48, 48, 48, 48, 48]⟩ : ByteArray).size)) ++ a1) t133 t134 _ A10.out).mono ?_); rintro e w13 ⟨rfl, hb⟩; refine ⟨_, rfl, ?_⟩; have n0_ := Aside0.mk (below_step (by repeat (first | (with_reducible first | exact HB.out | apply below_alloc | apply pw_below_drewN | apply below_drew1) | exact HB.out)) hb); clear HB; have HB := n0_; clear n0_; (try clear hb); (try clear hb2); (try clear hk); (try clear hi)) | ((with_reducible refine gate_dst (N := 34) rfl ?_); (try (refine gate_guard (by rfl) ?_; dsimp only)); refine Kd.R_lit (Kd.int .u8) _ 5 ?hg (N := 34) ?hd (xs := ([t133] : List Int)) (inner := [.int .u8 t133]) (ok := fun _ => True) (okp := fun _ => True) ?hr ?hp (fun _ hk => hk) trivial (Below.refl _ _) (Nat.le_refl _) (by simp) ?_; (case hd => rfl); (case hg => rfl); (case hr => first | (go_simp; done) | (go_simp; rfl)); (case hp => exact (Reps.one (show Kd.M (Kd.int .u8) _ _ _ t133 [.int .u8 t133] from rfl) (Reps.none _ _))); intro v136 w14 ho15 hb hg_ hnew_; clear hg_ hnew_; (first | rw [← Ny135.out] at ho15 | (simp only [Int.reduceToNat] at ho15; rw [← Ny135.out] at ho15)); have n0_ := Aside0.mk (Kd.R_lower ho15 (below_size (by repeat (first | (with_reducible first | exact HB.out | apply below_alloc | apply pw_below_drewN | apply below_drew1) | exact HB.out)))); have n1_ := Aside0.mk (below_step (by repeat (first | (with_reducible first | exact HB.out | apply below_alloc | apply pw_below_drewN | apply below_drew1) | exact HB.out)) hb); clear HB; have HO137 := n0_; have HB := n1_; clear n0_ n1_; clear hb ho15; have hcv16 := own_string (P := Try.prog) Try.underlying32 Try.underlying5 Try.underlying9 (Kd.own_of_R HO137.out)))
                    go_ret2
                    exact ⟨by first | rfl | (simp [errW_none, errW_some] <;> rfl) | (simp [*, errW_none, errW_some] <;> rfl), by repeat (first | (with_reducible first | exact HB.out | apply below_alloc | apply pw_below_drewN | apply below_drew1) | exact HB.out)⟩
                  · rw [if_neg c12] at H
                    exact absurd H (by simp)
                · rw [if_neg c11] at H
                  have c11b0 : (t134 == 0) = false := beq_eq_false_iff_ne.mpr c11
                  have c11b1 : (t134 != 0) = true := bne_iff_ne.mpr c11
                  simp only [Option.some.injEq, Prod.mk.injEq] at H
                  obtain ⟨rfl, rfl⟩ := H
                  go_wp2_with (first | ((with_reducible refine gate_callee (f := 8) rfl ?_); refine goesL_ (some 26) rfl rfl Try.func8 (by kernel_rfl) rfl #[.string ((a0 ++ ((⟨#[48, 48, 48, 48, 48, 48, 48, 48, 48]⟩ : ByteArray).extract ((a1.size : Int) : Int).toNat (⟨#[48, 48, 48, 48, 48, 48, 48, 48, 48]⟩ : ByteArray).size)) ++ a1)] rfl (by (try simp only [List.map_toArray, List.map_cons, List.map_nil]); first | done | rfl | (simp only [List.length_drop, List.length_take]; rfl)) ?_; (with_reducible refine (isin_Digit.calls kj2 ((a0 ++ ((⟨#[48, 48, 48, 48, 48, 48, 48, 48, 48]⟩ : ByteArray).extract ((a1.size : Int) : Int).toNat (⟨#[48, 48, 48, 48, 48, 48, 48, 48, 48]⟩ : ByteArray).size)) ++ a1) t133 t134 _ A10.out).mono ?_); rintro e w17 ⟨rfl, hb⟩; refine ⟨_, rfl, ?_⟩; have n0_ := Aside0.mk (below_step (by repeat (first | (with_reducible first | exact HB.out | apply below_alloc | apply pw_below_drewN | apply below_drew1) | exact HB.out)) hb); clear HB; have HB := n0_; clear n0_; (try clear hb); (try clear hb2); (try clear hk); (try clear hi)))
                  go_ret2
                  exact ⟨by first | rfl | (simp [errW_none, errW_some] <;> rfl) | (simp [*, errW_none, errW_some] <;> rfl), by repeat (first | (with_reducible first | exact HB.out | apply below_alloc | apply pw_below_drewN | apply below_drew1) | exact HB.out)⟩
              · rw [if_neg c9] at H
                exact absurd H (by simp)
            · rw [if_neg c8] at H
              exact absurd H (by simp)
          · rw [if_neg c7] at H
            exact absurd H (by simp)
        · rw [if_neg c6] at H
          exact absurd H (by simp)

/-! ### lombardlaw05_awake: function 12 -/
def lombardlaw05_awake.f (k : Nat)  : Option (Bool) := (isin_Make.f k (⟨#[85, 83]⟩ : ByteArray) (⟨#[48, 51, 55, 56, 51, 51, 49, 48, 48]⟩ : ByteArray)).bind fun bt138 => (if bt138.2 = 0 then (if bt138.1.toList = ([85, 83, 48, 51, 55, 56, 51, 51, 49, 48, 48, 53] : List UInt8) then ((isin_Check.f k bt138.1).bind fun t140 => (if t140 = bt138.2 then ((isin_Check.f k (⟨#[85, 83, 48, 51, 55, 56, 51, 51, 49, 48, 48, 54]⟩ : ByteArray)).bind fun t141 => (some (t141 == 12))) else (some false))) else (some false)) else (some false))
theorem lombardlaw05_awake.mono : ∀ k, LeO (lombardlaw05_awake.f k ) (lombardlaw05_awake.f (k + 1) ) := by
  intro  k
  unfold lombardlaw05_awake.f
  repeat' first
      | (with_reducible exact isin_Check.mono _ _)
      | (with_reducible exact isin_Make.mono _ _ _)
      | (with_reducible exact LeO.refl _)
      | (with_reducible exact LeO.none _)
      | (with_reducible refine LeO.ite ?_ ?_)
      | (with_reducible refine LeO.bind ?_ (fun _ => ?_))
      | exact isin_Check.mono _ _
      | exact isin_Make.mono _ _ _
      | exact LeO.none _
      | refine LeO.ite ?_ ?_
      | refine LeO.bind ?_ (fun _ => ?_)
set_option maxHeartbeats 8000000 in
set_option maxRecDepth 100000 in
theorem lombardlaw05_awake.calls (k : Nat)  (r : Bool) (w : World) (h : lombardlaw05_awake.f k  = some r) :
    Calls Try.prog 12 #[] w fun e w' => e = .returned (.bool r) ∧ Below w.heap.size w w' := by
  have HB := Aside0.mk (Below.refl w.heap.size w)
  have H : ((isin_Make.f k (⟨#[85, 83]⟩ : ByteArray) (⟨#[48, 51, 55, 56, 51, 51, 49, 48, 48]⟩ : ByteArray)).bind fun bt138 => (if bt138.2 = 0 then (if bt138.1.toList = ([85, 83, 48, 51, 55, 56, 51, 51, 49, 48, 48, 53] : List UInt8) then ((isin_Check.f k bt138.1).bind fun t140 => (if t140 = bt138.2 then ((isin_Check.f k (⟨#[85, 83, 48, 51, 55, 56, 51, 51, 49, 48, 48, 54]⟩ : ByteArray)).bind fun t141 => (some (t141 == 12))) else (some false))) else (some false)) else (some false))) = some r := h
  clear h
  replace H := Option.bind_eq_some_iff.mp H
  obtain ⟨⟨t138, t139⟩, A10, H⟩ := H
  replace H : (if t139 = 0 then (if t138.toList = ([85, 83, 48, 51, 55, 56, 51, 51, 49, 48, 48, 53] : List UInt8) then ((isin_Check.f k t138).bind fun t140 => (if t140 = t139 then ((isin_Check.f k (⟨#[85, 83, 48, 51, 55, 56, 51, 51, 49, 48, 48, 54]⟩ : ByteArray)).bind fun t141 => (some (t141 == 12))) else (some false))) else (some false)) else (some false)) = some r := H
  have A1 := Aside0.mk A10
  clear A10
  by_cases c2 : t139 = 0
  · rw [if_pos c2] at H
    have c2b0 : (t139 == 0) = true := beq_iff_eq.mpr c2
    have c2b1 : (t139 != 0) = false := bne_eq_false_iff_eq.mpr c2
    clear c2
    by_cases c3 : t138.toList = ([85, 83, 48, 51, 55, 56, 51, 51, 49, 48, 48, 53] : List UInt8)
    · rw [if_pos c3] at H
      have c3b0 : (t138.toList == ([85, 83, 48, 51, 55, 56, 51, 51, 49, 48, 48, 53] : List UInt8)) = true := beq_iff_eq.mpr c3
      have c3b1 : (t138.toList != ([85, 83, 48, 51, 55, 56, 51, 51, 49, 48, 48, 53] : List UInt8)) = false := bne_eq_false_iff_eq.mpr c3
      clear c3
      replace H := Option.bind_eq_some_iff.mp H
      obtain ⟨t140, A40, H⟩ := H
      replace H : (if t140 = t139 then ((isin_Check.f k (⟨#[85, 83, 48, 51, 55, 56, 51, 51, 49, 48, 48, 54]⟩ : ByteArray)).bind fun t141 => (some (t141 == 12))) else (some false)) = some r := H
      have A4 := Aside0.mk A40
      clear A40
      by_cases c5 : t140 = t139
      · rw [if_pos c5] at H
        have c5b0 : (t140 == t139) = true := beq_iff_eq.mpr c5
        have c5b1 : (t140 != t139) = false := bne_eq_false_iff_eq.mpr c5
        clear c5
        replace H := Option.bind_eq_some_iff.mp H
        obtain ⟨t141, A60, H⟩ := H
        replace H : (some (t141 == 12)) = some r := H
        have A6 := Aside0.mk A60
        clear A60
        obtain rfl := Option.some.inj H
        go_enter Try.func12, Try.ntmps12
        go_wp2_with (first | ((with_reducible refine gate_callee (f := 13) rfl ?_); refine goesL_ (some 4) rfl rfl Try.func13 (by kernel_rfl) rfl #[.string (⟨#[85, 83]⟩ : ByteArray), .string (⟨#[48, 51, 55, 56, 51, 51, 49, 48, 48]⟩ : ByteArray)] rfl (by (try simp only [List.map_toArray, List.map_cons, List.map_nil]); first | done | rfl | (simp only [List.length_drop, List.length_take]; rfl)) ?_; (with_reducible refine (isin_Make.calls k (⟨#[85, 83]⟩ : ByteArray) (⟨#[48, 51, 55, 56, 51, 51, 49, 48, 48]⟩ : ByteArray) t138 t139 _ A1.out).mono ?_); rintro e w7 ⟨rfl, hb⟩; refine ⟨_, rfl, ?_⟩; have n0_ := Aside0.mk (below_step (by repeat (first | (with_reducible first | exact HB.out | apply below_alloc | apply pw_below_drewN | apply below_drew1) | exact HB.out)) hb); clear HB; have HB := n0_; clear n0_; (try clear hb); (try clear hb2); (try clear hk); (try clear hi)) | (go_at_call 10; (with_reducible refine (isin_Check.calls k t138 t140 _ A4.out).mono ?_); rintro e w8 ⟨rfl, hb⟩; have n0_ := Aside0.mk (below_step (by repeat (first | (with_reducible first | exact HB.out | apply below_alloc | apply pw_below_drewN | apply below_drew1) | exact HB.out)) hb); clear HB; have HB := n0_; clear n0_; (try clear hb); (try clear hb2); (try clear hk); (try clear hi)) | (go_at_call 10; (with_reducible refine (isin_Check.calls k (⟨#[85, 83, 48, 51, 55, 56, 51, 51, 49, 48, 48, 54]⟩ : ByteArray) t141 _ A6.out).mono ?_); rintro e w9 ⟨rfl, hb⟩; have n0_ := Aside0.mk (below_step (by repeat (first | (with_reducible first | exact HB.out | apply below_alloc | apply pw_below_drewN | apply below_drew1) | exact HB.out)) hb); clear HB; have HB := n0_; clear n0_; (try clear hb); (try clear hb2); (try clear hk); (try clear hi)))
        go_ret
        exact ⟨by first | rfl | (simp [errW_none, errW_some] <;> rfl) | (simp [*, errW_none, errW_some] <;> rfl), by repeat (first | (with_reducible first | exact HB.out | apply below_alloc | apply pw_below_drewN | apply below_drew1) | exact HB.out)⟩
      · rw [if_neg c5] at H
        have c5b0 : (t140 == t139) = false := beq_eq_false_iff_ne.mpr c5
        have c5b1 : (t140 != t139) = true := bne_iff_ne.mpr c5
        obtain rfl := Option.some.inj H
        go_enter Try.func12, Try.ntmps12
        go_wp2_with (first | ((with_reducible refine gate_callee (f := 13) rfl ?_); refine goesL_ (some 4) rfl rfl Try.func13 (by kernel_rfl) rfl #[.string (⟨#[85, 83]⟩ : ByteArray), .string (⟨#[48, 51, 55, 56, 51, 51, 49, 48, 48]⟩ : ByteArray)] rfl (by (try simp only [List.map_toArray, List.map_cons, List.map_nil]); first | done | rfl | (simp only [List.length_drop, List.length_take]; rfl)) ?_; (with_reducible refine (isin_Make.calls k (⟨#[85, 83]⟩ : ByteArray) (⟨#[48, 51, 55, 56, 51, 51, 49, 48, 48]⟩ : ByteArray) t138 t139 _ A1.out).mono ?_); rintro e w10 ⟨rfl, hb⟩; refine ⟨_, rfl, ?_⟩; have n0_ := Aside0.mk (below_step (by repeat (first | (with_reducible first | exact HB.out | apply below_alloc | apply pw_below_drewN | apply below_drew1) | exact HB.out)) hb); clear HB; have HB := n0_; clear n0_; (try clear hb); (try clear hb2); (try clear hk); (try clear hi)) | (go_at_call 10; (with_reducible refine (isin_Check.calls k t138 t140 _ A4.out).mono ?_); rintro e w11 ⟨rfl, hb⟩; have n0_ := Aside0.mk (below_step (by repeat (first | (with_reducible first | exact HB.out | apply below_alloc | apply pw_below_drewN | apply below_drew1) | exact HB.out)) hb); clear HB; have HB := n0_; clear n0_; (try clear hb); (try clear hb2); (try clear hk); (try clear hi)))
        go_ret
        exact ⟨by first | rfl | (simp [errW_none, errW_some] <;> rfl) | (simp [*, errW_none, errW_some] <;> rfl), by repeat (first | (with_reducible first | exact HB.out | apply below_alloc | apply pw_below_drewN | apply below_drew1) | exact HB.out)⟩
    · rw [if_neg c3] at H
      have c3b0 : (t138.toList == ([85, 83, 48, 51, 55, 56, 51, 51, 49, 48, 48, 53] : List UInt8)) = false := beq_eq_false_iff_ne.mpr c3
      have c3b1 : (t138.toList != ([85, 83, 48, 51, 55, 56, 51, 51, 49, 48, 48, 53] : List UInt8)) = true := bne_iff_ne.mpr c3
      obtain rfl := Option.some.inj H
      go_enter Try.func12, Try.ntmps12
      go_wp2_with (first | ((with_reducible refine gate_callee (f := 13) rfl ?_); refine goesL_ (some 4) rfl rfl Try.func13 (by kernel_rfl) rfl #[.string (⟨#[85, 83]⟩ : ByteArray), .string (⟨#[48, 51, 55, 56, 51, 51, 49, 48, 48]⟩ : ByteArray)] rfl (by (try simp only [List.map_toArray, List.map_cons, List.map_nil]); first | done | rfl | (simp only [List.length_drop, List.length_take]; rfl)) ?_; (with_reducible refine (isin_Make.calls k (⟨#[85, 83]⟩ : ByteArray) (⟨#[48, 51, 55, 56, 51, 51, 49, 48, 48]⟩ : ByteArray) t138 t139 _ A1.out).mono ?_); rintro e w12 ⟨rfl, hb⟩; refine ⟨_, rfl, ?_⟩; have n0_ := Aside0.mk (below_step (by repeat (first | (with_reducible first | exact HB.out | apply below_alloc | apply pw_below_drewN | apply below_drew1) | exact HB.out)) hb); clear HB; have HB := n0_; clear n0_; (try clear hb); (try clear hb2); (try clear hk); (try clear hi)))
      go_ret
      exact ⟨by first | rfl | (simp [errW_none, errW_some] <;> rfl) | (simp [*, errW_none, errW_some] <;> rfl), by repeat (first | (with_reducible first | exact HB.out | apply below_alloc | apply pw_below_drewN | apply below_drew1) | exact HB.out)⟩
  · rw [if_neg c2] at H
    have c2b0 : (t139 == 0) = false := beq_eq_false_iff_ne.mpr c2
    have c2b1 : (t139 != 0) = true := bne_iff_ne.mpr c2
    obtain rfl := Option.some.inj H
    go_enter Try.func12, Try.ntmps12
    go_wp2_with (first | ((with_reducible refine gate_callee (f := 13) rfl ?_); refine goesL_ (some 4) rfl rfl Try.func13 (by kernel_rfl) rfl #[.string (⟨#[85, 83]⟩ : ByteArray), .string (⟨#[48, 51, 55, 56, 51, 51, 49, 48, 48]⟩ : ByteArray)] rfl (by (try simp only [List.map_toArray, List.map_cons, List.map_nil]); first | done | rfl | (simp only [List.length_drop, List.length_take]; rfl)) ?_; (with_reducible refine (isin_Make.calls k (⟨#[85, 83]⟩ : ByteArray) (⟨#[48, 51, 55, 56, 51, 51, 49, 48, 48]⟩ : ByteArray) t138 t139 _ A1.out).mono ?_); rintro e w13 ⟨rfl, hb⟩; refine ⟨_, rfl, ?_⟩; have n0_ := Aside0.mk (below_step (by repeat (first | (with_reducible first | exact HB.out | apply below_alloc | apply pw_below_drewN | apply below_drew1) | exact HB.out)) hb); clear HB; have HB := n0_; clear n0_; (try clear hb); (try clear hb2); (try clear hk); (try clear hi)))
    go_ret
    exact ⟨by first | rfl | (simp [errW_none, errW_some] <;> rfl) | (simp [*, errW_none, errW_some] <;> rfl), by repeat (first | (with_reducible first | exact HB.out | apply below_alloc | apply pw_below_drewN | apply below_drew1) | exact HB.out)⟩

/-! ### lombardlaw05_IsinDigits: function 3 -/
def lombardlaw05_IsinDigits.f (k : Nat) (a0 : ByteArray) (a1 : ByteArray) : Option (Bool) := (isin_Digit.f k a0).bind fun bt142 => ((lombardref05_Digit.f k a0).bind fun bt144 => (if bt142.1 = bt144.1 then (if bt142.2 = bt144.2 then ((isin_Check.f k a1).bind fun t146 => ((lombardref05_Check.f k a1).bind fun t147 => (if t146 = t147 then ((lombardlaw05_awake.f k).bind fun t148 => (some t148)) else (some false)))) else (some false)) else (some false)))
theorem lombardlaw05_IsinDigits.mono : ∀ a0 a1 k, LeO (lombardlaw05_IsinDigits.f k a0 a1) (lombardlaw05_IsinDigits.f (k + 1) a0 a1) := by
  intro a0 a1 k
  unfold lombardlaw05_IsinDigits.f
  repeat' first
      | (with_reducible exact isin_Check.mono _ _)
      | (with_reducible exact isin_Digit.mono _ _)
      | (with_reducible exact lombardlaw05_awake.mono _)
      | (with_reducible exact lombardref05_Check.mono _ _)
      | (with_reducible exact lombardref05_Digit.mono _ _)
      | (with_reducible exact LeO.refl _)
      | (with_reducible exact LeO.none _)
      | (with_reducible refine LeO.ite ?_ ?_)
      | (with_reducible refine LeO.bind ?_ (fun _ => ?_))
      | exact isin_Check.mono _ _
      | exact isin_Digit.mono _ _
      | exact lombardlaw05_awake.mono _
      | exact lombardref05_Check.mono _ _
      | exact lombardref05_Digit.mono _ _
      | exact LeO.none _
      | refine LeO.ite ?_ ?_
      | refine LeO.bind ?_ (fun _ => ?_)
set_option maxHeartbeats 8000000 in
set_option maxRecDepth 100000 in
theorem lombardlaw05_IsinDigits.calls (k : Nat) (a0 : ByteArray) (a1 : ByteArray) (r : Bool) (w : World) (h : lombardlaw05_IsinDigits.f k a0 a1 = some r) :
    Calls Try.prog 3 #[.string a0, .string a1] w fun e w' => e = .returned (.bool r) ∧ Below w.heap.size w w' := by
  have HB := Aside0.mk (Below.refl w.heap.size w)
  have H : ((isin_Digit.f k a0).bind fun bt142 => ((lombardref05_Digit.f k a0).bind fun bt144 => (if bt142.1 = bt144.1 then (if bt142.2 = bt144.2 then ((isin_Check.f k a1).bind fun t146 => ((lombardref05_Check.f k a1).bind fun t147 => (if t146 = t147 then ((lombardlaw05_awake.f k).bind fun t148 => (some t148)) else (some false)))) else (some false)) else (some false)))) = some r := h
  clear h
  replace H := Option.bind_eq_some_iff.mp H
  obtain ⟨⟨t142, t143⟩, A30, H⟩ := H
  replace H : ((lombardref05_Digit.f k a0).bind fun bt144 => (if t142 = bt144.1 then (if t143 = bt144.2 then ((isin_Check.f k a1).bind fun t146 => ((lombardref05_Check.f k a1).bind fun t147 => (if t146 = t147 then ((lombardlaw05_awake.f k).bind fun t148 => (some t148)) else (some false)))) else (some false)) else (some false))) = some r := H
  have A3 := Aside0.mk A30
  clear A30
  replace H := Option.bind_eq_some_iff.mp H
  obtain ⟨⟨t144, t145⟩, A40, H⟩ := H
  replace H : (if t142 = t144 then (if t143 = t145 then ((isin_Check.f k a1).bind fun t146 => ((lombardref05_Check.f k a1).bind fun t147 => (if t146 = t147 then ((lombardlaw05_awake.f k).bind fun t148 => (some t148)) else (some false)))) else (some false)) else (some false)) = some r := H
  have A4 := Aside0.mk A40
  clear A40
  by_cases c5 : t142 = t144
  · rw [if_pos c5] at H
    have c5b0 : (t142 == t144) = true := beq_iff_eq.mpr c5
    have c5b1 : (t142 != t144) = false := bne_eq_false_iff_eq.mpr c5
    clear c5
    by_cases c6 : t143 = t145
    · rw [if_pos c6] at H
      have c6b0 : (t143 == t145) = true := beq_iff_eq.mpr c6
      have c6b1 : (t143 != t145) = false := bne_eq_false_iff_eq.mpr c6
      clear c6
      replace H := Option.bind_eq_some_iff.mp H
      obtain ⟨t146, A70, H⟩ := H
      replace H : ((lombardref05_Check.f k a1).bind fun t147 => (if t146 = t147 then ((lombardlaw05_awake.f k).bind fun t148 => (some t148)) else (some false))) = some r := H
      have A7 := Aside0.mk A70
      clear A70
      replace H := Option.bind_eq_some_iff.mp H
      obtain ⟨t147, A80, H⟩ := H
      replace H : (if t146 = t147 then ((lombardlaw05_awake.f k).bind fun t148 => (some t148)) else (some false)) = some r := H
      have A8 := Aside0.mk A80
      clear A80
      by_cases c9 : t146 = t147
      · rw [if_pos c9] at H
        have c9b0 : (t146 == t147) = true := beq_iff_eq.mpr c9
        have c9b1 : (t146 != t147) = false := bne_eq_false_iff_eq.mpr c9
        clear c9
        replace H := Option.bind_eq_some_iff.mp H
        obtain ⟨t148, A100, H⟩ := H
        replace H : (some t148) = some r := H
        have A10 := Aside0.mk A100
        clear A100
        obtain rfl := Option.some.inj H
        go_enter Try.func3, Try.ntmps3
        go_wp2_with (first | ((with_reducible refine gate_callee (f := 8) rfl ?_); refine goesL_ (some 11) rfl rfl Try.func8 (by kernel_rfl) rfl #[.string a0] rfl (by (try simp only [List.map_toArray, List.map_cons, List.map_nil]); first | done | rfl | (simp only [List.length_drop, List.length_take]; rfl)) ?_; (with_reducible refine (isin_Digit.calls k a0 t142 t143 _ A3.out).mono ?_); rintro e w11 ⟨rfl, hb⟩; refine ⟨_, rfl, ?_⟩; have n0_ := Aside0.mk (below_step (by repeat (first | (with_reducible first | exact HB.out | apply below_alloc | apply pw_below_drewN | apply below_drew1) | exact HB.out)) hb); clear HB; have HB := n0_; clear n0_; (try clear hb); (try clear hb2); (try clear hk); (try clear hi)) | ((with_reducible refine gate_callee (f := 9) rfl ?_); refine goesL_ (some 16) rfl rfl Try.func9 (by kernel_rfl) rfl #[.string a0] rfl (by (try simp only [List.map_toArray, List.map_cons, List.map_nil]); first | done | rfl | (simp only [List.length_drop, List.length_take]; rfl)) ?_; (with_reducible refine (lombardref05_Digit.calls k a0 t144 t145 _ A4.out).mono ?_); rintro e w12 ⟨rfl, hb⟩; refine ⟨_, rfl, ?_⟩; have n0_ := Aside0.mk (below_step (by repeat (first | (with_reducible first | exact HB.out | apply below_alloc | apply pw_below_drewN | apply below_drew1) | exact HB.out)) hb); clear HB; have HB := n0_; clear n0_; (try clear hb); (try clear hb2); (try clear hk); (try clear hi)) | (go_at_call 10; (with_reducible refine (isin_Check.calls k a1 t146 _ A7.out).mono ?_); rintro e w13 ⟨rfl, hb⟩; have n0_ := Aside0.mk (below_step (by repeat (first | (with_reducible first | exact HB.out | apply below_alloc | apply pw_below_drewN | apply below_drew1) | exact HB.out)) hb); clear HB; have HB := n0_; clear n0_; (try clear hb); (try clear hb2); (try clear hk); (try clear hi)) | (go_at_call 11; (with_reducible refine (lombardref05_Check.calls k a1 t147 _ A8.out).mono ?_); rintro e w14 ⟨rfl, hb⟩; have n0_ := Aside0.mk (below_step (by repeat (first | (with_reducible first | exact HB.out | apply below_alloc | apply pw_below_drewN | apply below_drew1) | exact HB.out)) hb); clear HB; have HB := n0_; clear n0_; (try clear hb); (try clear hb2); (try clear hk); (try clear hi)) | (go_at_call 12; (with_reducible refine (lombardlaw05_awake.calls k  t148 _ A10.out).mono ?_); rintro e w15 ⟨rfl, hb⟩; have n0_ := Aside0.mk (below_step (by repeat (first | (with_reducible first | exact HB.out | apply below_alloc | apply pw_below_drewN | apply below_drew1) | exact HB.out)) hb); clear HB; have HB := n0_; clear n0_; (try clear hb); (try clear hb2); (try clear hk); (try clear hi)))
        go_ret
        exact ⟨by first | rfl | (simp [errW_none, errW_some] <;> rfl) | (simp [*, errW_none, errW_some] <;> rfl), by repeat (first | (with_reducible first | exact HB.out | apply below_alloc | apply pw_below_drewN | apply below_drew1) | exact HB.out)⟩
      · rw [if_neg c9] at H
        have c9b0 : (t146 == t147) = false := beq_eq_false_iff_ne.mpr c9
        have c9b1 : (t146 != t147) = true := bne_iff_ne.mpr c9
        obtain rfl := Option.some.inj H
        go_enter Try.func3, Try.ntmps3
        go_wp2_with (first | ((with_reducible refine gate_callee (f := 8) rfl ?_); refine goesL_ (some 11) rfl rfl Try.func8 (by kernel_rfl) rfl #[.string a0] rfl (by (try simp only [List.map_toArray, List.map_cons, List.map_nil]); first | done | rfl | (simp only [List.length_drop, List.length_take]; rfl)) ?_; (with_reducible refine (isin_Digit.calls k a0 t142 t143 _ A3.out).mono ?_); rintro e w16 ⟨rfl, hb⟩; refine ⟨_, rfl, ?_⟩; have n0_ := Aside0.mk (below_step (by repeat (first | (with_reducible first | exact HB.out | apply below_alloc | apply pw_below_drewN | apply below_drew1) | exact HB.out)) hb); clear HB; have HB := n0_; clear n0_; (try clear hb); (try clear hb2); (try clear hk); (try clear hi)) | ((with_reducible refine gate_callee (f := 9) rfl ?_); refine goesL_ (some 16) rfl rfl Try.func9 (by kernel_rfl) rfl #[.string a0] rfl (by (try simp only [List.map_toArray, List.map_cons, List.map_nil]); first | done | rfl | (simp only [List.length_drop, List.length_take]; rfl)) ?_; (with_reducible refine (lombardref05_Digit.calls k a0 t144 t145 _ A4.out).mono ?_); rintro e w17 ⟨rfl, hb⟩; refine ⟨_, rfl, ?_⟩; have n0_ := Aside0.mk (below_step (by repeat (first | (with_reducible first | exact HB.out | apply below_alloc | apply pw_below_drewN | apply below_drew1) | exact HB.out)) hb); clear HB; have HB := n0_; clear n0_; (try clear hb); (try clear hb2); (try clear hk); (try clear hi)) | (go_at_call 10; (with_reducible refine (isin_Check.calls k a1 t146 _ A7.out).mono ?_); rintro e w18 ⟨rfl, hb⟩; have n0_ := Aside0.mk (below_step (by repeat (first | (with_reducible first | exact HB.out | apply below_alloc | apply pw_below_drewN | apply below_drew1) | exact HB.out)) hb); clear HB; have HB := n0_; clear n0_; (try clear hb); (try clear hb2); (try clear hk); (try clear hi)) | (go_at_call 11; (with_reducible refine (lombardref05_Check.calls k a1 t147 _ A8.out).mono ?_); rintro e w19 ⟨rfl, hb⟩; have n0_ := Aside0.mk (below_step (by repeat (first | (with_reducible first | exact HB.out | apply below_alloc | apply pw_below_drewN | apply below_drew1) | exact HB.out)) hb); clear HB; have HB := n0_; clear n0_; (try clear hb); (try clear hb2); (try clear hk); (try clear hi)))
        go_ret
        exact ⟨by first | rfl | (simp [errW_none, errW_some] <;> rfl) | (simp [*, errW_none, errW_some] <;> rfl), by repeat (first | (with_reducible first | exact HB.out | apply below_alloc | apply pw_below_drewN | apply below_drew1) | exact HB.out)⟩
    · rw [if_neg c6] at H
      have c6b0 : (t143 == t145) = false := beq_eq_false_iff_ne.mpr c6
      have c6b1 : (t143 != t145) = true := bne_iff_ne.mpr c6
      obtain rfl := Option.some.inj H
      go_enter Try.func3, Try.ntmps3
      go_wp2_with (first | ((with_reducible refine gate_callee (f := 8) rfl ?_); refine goesL_ (some 11) rfl rfl Try.func8 (by kernel_rfl) rfl #[.string a0] rfl (by (try simp only [List.map_toArray, List.map_cons, List.map_nil]); first | done | rfl | (simp only [List.length_drop, List.length_take]; rfl)) ?_; (with_reducible refine (isin_Digit.calls k a0 t142 t143 _ A3.out).mono ?_); rintro e w20 ⟨rfl, hb⟩; refine ⟨_, rfl, ?_⟩; have n0_ := Aside0.mk (below_step (by repeat (first | (with_reducible first | exact HB.out | apply below_alloc | apply pw_below_drewN | apply below_drew1) | exact HB.out)) hb); clear HB; have HB := n0_; clear n0_; (try clear hb); (try clear hb2); (try clear hk); (try clear hi)) | ((with_reducible refine gate_callee (f := 9) rfl ?_); refine goesL_ (some 16) rfl rfl Try.func9 (by kernel_rfl) rfl #[.string a0] rfl (by (try simp only [List.map_toArray, List.map_cons, List.map_nil]); first | done | rfl | (simp only [List.length_drop, List.length_take]; rfl)) ?_; (with_reducible refine (lombardref05_Digit.calls k a0 t144 t145 _ A4.out).mono ?_); rintro e w21 ⟨rfl, hb⟩; refine ⟨_, rfl, ?_⟩; have n0_ := Aside0.mk (below_step (by repeat (first | (with_reducible first | exact HB.out | apply below_alloc | apply pw_below_drewN | apply below_drew1) | exact HB.out)) hb); clear HB; have HB := n0_; clear n0_; (try clear hb); (try clear hb2); (try clear hk); (try clear hi)))
      go_ret
      exact ⟨by first | rfl | (simp [errW_none, errW_some] <;> rfl) | (simp [*, errW_none, errW_some] <;> rfl), by repeat (first | (with_reducible first | exact HB.out | apply below_alloc | apply pw_below_drewN | apply below_drew1) | exact HB.out)⟩
  · rw [if_neg c5] at H
    have c5b0 : (t142 == t144) = false := beq_eq_false_iff_ne.mpr c5
    have c5b1 : (t142 != t144) = true := bne_iff_ne.mpr c5
    obtain rfl := Option.some.inj H
    go_enter Try.func3, Try.ntmps3
    go_wp2_with (first | ((with_reducible refine gate_callee (f := 8) rfl ?_); refine goesL_ (some 11) rfl rfl Try.func8 (by kernel_rfl) rfl #[.string a0] rfl (by (try simp only [List.map_toArray, List.map_cons, List.map_nil]); first | done | rfl | (simp only [List.length_drop, List.length_take]; rfl)) ?_; (with_reducible refine (isin_Digit.calls k a0 t142 t143 _ A3.out).mono ?_); rintro e w22 ⟨rfl, hb⟩; refine ⟨_, rfl, ?_⟩; have n0_ := Aside0.mk (below_step (by repeat (first | (with_reducible first | exact HB.out | apply below_alloc | apply pw_below_drewN | apply below_drew1) | exact HB.out)) hb); clear HB; have HB := n0_; clear n0_; (try clear hb); (try clear hb2); (try clear hk); (try clear hi)) | ((with_reducible refine gate_callee (f := 9) rfl ?_); refine goesL_ (some 16) rfl rfl Try.func9 (by kernel_rfl) rfl #[.string a0] rfl (by (try simp only [List.map_toArray, List.map_cons, List.map_nil]); first | done | rfl | (simp only [List.length_drop, List.length_take]; rfl)) ?_; (with_reducible refine (lombardref05_Digit.calls k a0 t144 t145 _ A4.out).mono ?_); rintro e w23 ⟨rfl, hb⟩; refine ⟨_, rfl, ?_⟩; have n0_ := Aside0.mk (below_step (by repeat (first | (with_reducible first | exact HB.out | apply below_alloc | apply pw_below_drewN | apply below_drew1) | exact HB.out)) hb); clear HB; have HB := n0_; clear n0_; (try clear hb); (try clear hb2); (try clear hk); (try clear hi)))
    go_ret
    exact ⟨by first | rfl | (simp [errW_none, errW_some] <;> rfl) | (simp [*, errW_none, errW_some] <;> rfl), by repeat (first | (with_reducible first | exact HB.out | apply below_alloc | apply pw_below_drewN | apply below_drew1) | exact HB.out)⟩

/-- THE ONE PURE STATEMENT of lombardlaw05_IsinDigits: yours. -/
def lombardlaw05_IsinDigits.Pure : Prop := ∀ (a0 : ByteArray) (a1 : ByteArray), a0.size ≤ 140737488351232 → a1.size ≤ 140737488351232 → ∃ k, lombardlaw05_IsinDigits.f k a0 a1 = some true
theorem lombardlaw05_IsinDigits.walk (P : lombardlaw05_IsinDigits.Pure) (a0 : ByteArray) (a1 : ByteArray) (w : World) (w0 : a0.size ≤ 140737488351232) (w1 : a1.size ≤ 140737488351232) :
    Calls Try.prog 3 #[.string a0, .string a1] w fun e w' => e = .returned (.bool true) ∧ Below w.heap.size w w' := by
  obtain ⟨k, h⟩ := P a0 a1 w0 w1
  refine (lombardlaw05_IsinDigits.calls k a0 a1 true w h).mono ?_
  rintro e w' ⟨rfl, hd⟩
  exact ⟨rfl, hd⟩

-- NOT PRINTED: function 4 (lombardlaw05_IsinSlips)

end Go.Proofs.Ytabnpmojccepcaa.I
