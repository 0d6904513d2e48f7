/- Lean functions that answer as the Go functions do, and the proof of that, function by function, for every input at which the Lean function has an answer. Written by a program of this session (the print, turned: NOTES.md). -/
import Derived.Test.YtabnpmojccepcaaJx0
namespace Go.Proofs.Ytabnpmojccepcaa.J
open Go.RowKit Go.Proofs.YtabnpmojccepcaaW.PrintWords Go.Proofs.YtabnpmojccepcaaW.PrintLast Go.Proofs.YtabnpmojccepcaaW.PrintMore
attribute [local go_sem] max2_int min2_int max_two min_two max_three min_three max_four min_four   -- for this text's walks alone
set_option linter.unusedVariables false
set_option linter.unusedSimpArgs false

/-! ### lombardlaw05_IsinSlips: function 4 -/
mutual
def lombardlaw05_IsinSlips.j0 : Nat → ByteArray → Int → Int → Bool → Option (Bool)
  | 0, _, _, _, _ => none
  | k + 1, x0, x2, x7, x28 => if x28 = true then ((I.lombardlaw05_awake.f k).bind fun t103 => (some t103)) else (if 0 ≤ x7 then (if x7 ≤ (x0.size : Int) then ((some (([(48 + (Int.tmod x2 10)) % 256] : List Int) : List Int)).bind fun y104 => (if (x0.extract 0 (x7 : Int).toNat).size + (strOfNums y104).size ≤ 9223372036854775807 then (if 0 ≤ (wrap64 (x7 + 1)) then (if (wrap64 (x7 + 1)) ≤ (x0.size : Int) then (if ((x0.extract 0 (x7 : Int).toNat) ++ (strOfNums y104)).size + (x0.extract ((wrap64 (x7 + 1)) : Int).toNat x0.size).size ≤ 9223372036854775807 then ((I.isin_Check.f k (((x0.extract 0 (x7 : Int).toNat) ++ (strOfNums y104)) ++ (x0.extract ((wrap64 (x7 + 1)) : Int).toNat x0.size))).bind fun t107 => (if x7 < (x0.size : Int) then (if ((t107 == 0) != (((48 + (Int.tmod x2 10)) % 256) == (bt x0 x7))) = true then (some false) else (if x7 = 11 then (lombardlaw05_IsinSlips.j1 k x0 x7 true) else (if (wrap64 (x7 + 1)) < (x0.size : Int) then (if (bt x0 (wrap64 (x7 + 1))) < 48 then (lombardlaw05_IsinSlips.j1 k x0 x7 true) else (lombardlaw05_IsinSlips.j1 k x0 x7 (decide ((bt x0 (wrap64 (x7 + 1))) > 57)))) else (none)))) else (none))) else (none)) else (none)) else (none)) else (none))) else (none)) else (none))
def lombardlaw05_IsinSlips.j1 : Nat → ByteArray → Int → Bool → Option (Bool)
  | 0, _, _, _ => none
  | k + 1, x0, x7, x69 => if x69 = true then ((I.lombardlaw05_awake.f k).bind fun t108 => (some t108)) else (if 0 ≤ x7 then (if x7 ≤ (x0.size : Int) then (if 0 ≤ (wrap64 (x7 + 1)) then (if (wrap64 (x7 + 1)) < (x0.size : Int) then (if x7 < (x0.size : Int) then ((some (([bt x0 (wrap64 (x7 + 1)), bt x0 x7] : List Int) : List Int)).bind fun y109 => (if (x0.extract 0 (x7 : Int).toNat).size + (strOfNums y109).size ≤ 9223372036854775807 then (if 0 ≤ (wrap64 (x7 + 2)) then (if (wrap64 (x7 + 2)) ≤ (x0.size : Int) then (if ((x0.extract 0 (x7 : Int).toNat) ++ (strOfNums y109)).size + (x0.extract ((wrap64 (x7 + 2)) : Int).toNat x0.size).size ≤ 9223372036854775807 then (if (bt x0 x7) = 48 then (if (bt x0 (wrap64 (x7 + 1))) = 57 then (lombardlaw05_IsinSlips.j2 k x0 x7 (((x0.extract 0 (x7 : Int).toNat) ++ (strOfNums y109)) ++ (x0.extract ((wrap64 (x7 + 2)) : Int).toNat x0.size)) true) else (if (bt x0 x7) = 57 then (lombardlaw05_IsinSlips.j2 k x0 x7 (((x0.extract 0 (x7 : Int).toNat) ++ (strOfNums y109)) ++ (x0.extract ((wrap64 (x7 + 2)) : Int).toNat x0.size)) ((bt x0 (wrap64 (x7 + 1))) == 48)) else (lombardlaw05_IsinSlips.j2 k x0 x7 (((x0.extract 0 (x7 : Int).toNat) ++ (strOfNums y109)) ++ (x0.extract ((wrap64 (x7 + 2)) : Int).toNat x0.size)) false))) else (if (bt x0 x7) = 57 then (lombardlaw05_IsinSlips.j2 k x0 x7 (((x0.extract 0 (x7 : Int).toNat) ++ (strOfNums y109)) ++ (x0.extract ((wrap64 (x7 + 2)) : Int).toNat x0.size)) ((bt x0 (wrap64 (x7 + 1))) == 48)) else (lombardlaw05_IsinSlips.j2 k x0 x7 (((x0.extract 0 (x7 : Int).toNat) ++ (strOfNums y109)) ++ (x0.extract ((wrap64 (x7 + 2)) : Int).toNat x0.size)) false))) else (none)) else (none)) else (none)) else (none))) else (none)) else (none)) else (none)) else (none)) else (none))
def lombardlaw05_IsinSlips.j2 : Nat → ByteArray → Int → ByteArray → Bool → Option (Bool)
  | 0, _, _, _, _ => none
  | k + 1, x0, x7, x10, x11 => if x11 = true then ((I.lombardlaw05_awake.f k).bind fun t112 => (some t112)) else ((I.isin_Check.f k x10).bind fun t113 => (if 0 ≤ x7 then (if x7 < (x0.size : Int) then (if 0 ≤ (wrap64 (x7 + 1)) then (if (wrap64 (x7 + 1)) < (x0.size : Int) then (if ((t113 == 0) == ((bt x0 x7) == (bt x0 (wrap64 (x7 + 1))))) = true then ((I.lombardlaw05_awake.f k).bind fun t114 => (some t114)) else (some false)) else (none)) else (none)) else (none)) else (none)))
end
def lombardlaw05_IsinSlips.f (k : Nat) (a0 : ByteArray) (a1 : Int) (a2 : Int) : Option (Bool) := (I.lombardref05_Check.f k a0).bind fun t101 => (if t101 = 0 then (if 0 ≤ (wrap64 (Int.tmod a1 12)) then (if (wrap64 (Int.tmod a1 12)) < (a0.size : Int) then (if (bt a0 (wrap64 (Int.tmod a1 12))) < 48 then (lombardlaw05_IsinSlips.j0 k a0 a2 (wrap64 (Int.tmod a1 12)) true) else (lombardlaw05_IsinSlips.j0 k a0 a2 (wrap64 (Int.tmod a1 12)) (decide ((bt a0 (wrap64 (Int.tmod a1 12))) > 57)))) else (none)) else (none)) else ((I.lombardlaw05_awake.f k).bind fun t102 => (some t102)))
theorem lombardlaw05_IsinSlips.mono_l : ∀ k, (∀ y0 y1 y2 y3, LeO (lombardlaw05_IsinSlips.j0 k y0 y1 y2 y3) (lombardlaw05_IsinSlips.j0 (k + 1) y0 y1 y2 y3)) ∧ (∀ y0 y1 y2, LeO (lombardlaw05_IsinSlips.j1 k y0 y1 y2) (lombardlaw05_IsinSlips.j1 (k + 1) y0 y1 y2)) ∧ (∀ y0 y1 y2 y3, LeO (lombardlaw05_IsinSlips.j2 k y0 y1 y2 y3) (lombardlaw05_IsinSlips.j2 (k + 1) y0 y1 y2 y3))
  | 0 => ⟨fun _ _ _ _ r h => by simp [lombardlaw05_IsinSlips.j0] at h, fun _ _ _ r h => by simp [lombardlaw05_IsinSlips.j1] at h, fun _ _ _ _ r h => by simp [lombardlaw05_IsinSlips.j2] at h⟩
  | k + 1 => by
    obtain ⟨ih0, ih1, ih2⟩ := lombardlaw05_IsinSlips.mono_l k
    refine ⟨?_, ?_, ?_⟩
    · intro y0 y1 y2 y3
      unfold lombardlaw05_IsinSlips.j0
      repeat' first
      | (with_reducible exact ih0 _ _ _ _)
      | (with_reducible exact ih1 _ _ _)
      | (with_reducible exact ih2 _ _ _ _)
      | (with_reducible exact I.isin_Check.mono _ _)
      | (with_reducible exact I.lombardlaw05_awake.mono _)
      | (with_reducible exact I.lombardref05_Check.mono _ _)
      | (with_reducible exact LeO.refl _)
      | (with_reducible exact LeO.none _)
      | (with_reducible refine LeO.ite ?_ ?_)
      | (with_reducible refine LeO.bind ?_ (fun _ => ?_))
      | exact ih0 _ _ _ _
      | exact ih1 _ _ _
      | exact ih2 _ _ _ _
      | exact I.isin_Check.mono _ _
      | exact I.lombardlaw05_awake.mono _
      | exact I.lombardref05_Check.mono _ _
      | exact LeO.none _
      | refine LeO.ite ?_ ?_
      | refine LeO.bind ?_ (fun _ => ?_)
    · intro y0 y1 y2
      unfold lombardlaw05_IsinSlips.j1
      repeat' first
      | (with_reducible exact ih0 _ _ _ _)
      | (with_reducible exact ih1 _ _ _)
      | (with_reducible exact ih2 _ _ _ _)
      | (with_reducible exact I.isin_Check.mono _ _)
      | (with_reducible exact I.lombardlaw05_awake.mono _)
      | (with_reducible exact I.lombardref05_Check.mono _ _)
      | (with_reducible exact LeO.refl _)
      | (with_reducible exact LeO.none _)
      | (with_reducible refine LeO.ite ?_ ?_)
      | (with_reducible refine LeO.bind ?_ (fun _ => ?_))
      | exact ih0 _ _ _ _
      | exact ih1 _ _ _
      | exact ih2 _ _ _ _
      | exact I.isin_Check.mono _ _
      | exact I.lombardlaw05_awake.mono _
      | exact I.lombardref05_Check.mono _ _
      | exact LeO.none _
      | refine LeO.ite ?_ ?_
      | refine LeO.bind ?_ (fun _ => ?_)
    · intro y0 y1 y2 y3
      unfold lombardlaw05_IsinSlips.j2
      repeat' first
      | (with_reducible exact ih0 _ _ _ _)
      | (with_reducible exact ih1 _ _ _)
      | (with_reducible exact ih2 _ _ _ _)
      | (with_reducible exact I.isin_Check.mono _ _)
      | (with_reducible exact I.lombardlaw05_awake.mono _)
      | (with_reducible exact I.lombardref05_Check.mono _ _)
      | (with_reducible exact LeO.refl _)
      | (with_reducible exact LeO.none _)
      | (with_reducible refine LeO.ite ?_ ?_)
      | (with_reducible refine LeO.bind ?_ (fun _ => ?_))
      | exact ih0 _ _ _ _
      | exact ih1 _ _ _
      | exact ih2 _ _ _ _
      | exact I.isin_Check.mono _ _
      | exact I.lombardlaw05_awake.mono _
      | exact I.lombardref05_Check.mono _ _
      | exact LeO.none _
      | refine LeO.ite ?_ ?_
      | refine LeO.bind ?_ (fun _ => ?_)
theorem lombardlaw05_IsinSlips.mono : ∀ a0 a1 a2 k, LeO (lombardlaw05_IsinSlips.f k a0 a1 a2) (lombardlaw05_IsinSlips.f (k + 1) a0 a1 a2) := by
  intro a0 a1 a2 k
  obtain ⟨ih0, ih1, ih2⟩ := lombardlaw05_IsinSlips.mono_l k
  unfold lombardlaw05_IsinSlips.f
  repeat' first
      | (with_reducible exact ih0 _ _ _ _)
      | (with_reducible exact ih1 _ _ _)
      | (with_reducible exact ih2 _ _ _ _)
      | (with_reducible exact I.isin_Check.mono _ _)
      | (with_reducible exact I.lombardlaw05_awake.mono _)
      | (with_reducible exact I.lombardref05_Check.mono _ _)
      | (with_reducible exact LeO.refl _)
      | (with_reducible exact LeO.none _)
      | (with_reducible refine LeO.ite ?_ ?_)
      | (with_reducible refine LeO.bind ?_ (fun _ => ?_))
      | exact ih0 _ _ _ _
      | exact ih1 _ _ _
      | exact ih2 _ _ _ _
      | exact I.isin_Check.mono _ _
      | exact I.lombardlaw05_awake.mono _
      | exact I.lombardref05_Check.mono _ _
      | exact LeO.none _
      | refine LeO.ite ?_ ?_
      | refine LeO.bind ?_ (fun _ => ?_)
def lombardlaw05_IsinSlips.T7 : Bool × List (List Nat × List Nat) := (true, [([], []), ([], []), ([0, 1], [0, 1]), ([], []), ([3], [3]), ([4], [4]), ([2, 5], [2, 5]), ([], []), ([], []), ([8], [8]), ([7, 9], [7, 9]), ([6, 10], [6, 10]), ([11, 0, 1, 2, 3, 4, 5, 6, 7, 8, 9, 10, 11], [11])])
def lombardlaw05_IsinSlips.B7 : List Nat := [0, 0, 3, 0, 8, 24, 63, 0, 0, 256, 896, 2047, 4095]
theorem lombardlaw05_IsinSlips.tab7 : rtab .any (opsOf Try.f4 7) = lombardlaw05_IsinSlips.T7 := by kernel_rfl
theorem lombardlaw05_IsinSlips.bits7 : waitsOk lombardlaw05_IsinSlips.T7.2 lombardlaw05_IsinSlips.B7 = true := by kernel_rfl
def lombardlaw05_IsinSlips.T8 : Bool × List (List Nat × List Nat) := (true, [([], []), ([0], [0]), ([1], [1]), ([], []), ([], []), ([], []), ([4, 5], [4, 5]), ([3, 6], [3, 6]), ([2, 7], [2, 7])])
def lombardlaw05_IsinSlips.B8 : List Nat := [0, 1, 3, 0, 0, 0, 48, 120, 255]
theorem lombardlaw05_IsinSlips.tab8 : rtab .any (opsOf Try.f4 8) = lombardlaw05_IsinSlips.T8 := by kernel_rfl
theorem lombardlaw05_IsinSlips.bits8 : waitsOk lombardlaw05_IsinSlips.T8.2 lombardlaw05_IsinSlips.B8 = true := by kernel_rfl
def lombardlaw05_IsinSlips.T12 : Bool × List (List Nat × List Nat) := (true, [([], []), ([], []), ([0, 1], [0, 1]), ([], []), ([], []), ([4], [4]), ([3, 5], [3, 5]), ([], []), ([], []), ([7, 8], [7, 8]), ([6, 9], [6, 9]), ([10], [10]), ([2, 11], [2, 11]), ([], []), ([], []), ([14], [14]), ([13, 15], [13, 15]), ([12, 16], [12, 16]), ([17, 0, 1, 2, 3, 4, 5, 6, 7, 8, 9, 10, 11, 12, 13, 14, 15, 16, 17], [17])])
def lombardlaw05_IsinSlips.B12 : List Nat := [0, 0, 3, 0, 0, 16, 56, 0, 0, 384, 1016, 2040, 4095, 0, 0, 16384, 57344, 131071, 262143]
theorem lombardlaw05_IsinSlips.tab12 : rtab .any (opsOf Try.f4 12) = lombardlaw05_IsinSlips.T12 := by kernel_rfl
theorem lombardlaw05_IsinSlips.bits12 : waitsOk lombardlaw05_IsinSlips.T12.2 lombardlaw05_IsinSlips.B12 = true := by kernel_rfl
def lombardlaw05_IsinSlips.T14 : Bool × List (List Nat × List Nat) := (true, [([], []), ([0], [0]), ([1], [1]), ([2, 1, 1], [1, 2]), ([3, 1], [1, 3]), ([1], [1]), ([1], [1]), ([5, 6, 1], [1, 5, 6]), ([1], [1]), ([1], [1]), ([9, 1], [1, 9]), ([8, 10, 1], [1, 8, 10]), ([7, 11, 1], [1, 7, 11]), ([4, 12, 1], [1, 4, 12]), ([1, 13], [1, 13]), ([14, 3], [14]), ([15, 15], [15]), ([15, 16], [15, 16]), ([17, 16, 0, 1, 2, 3, 4, 5, 6, 7, 8, 9, 10, 11, 12, 13, 14, 15, 16, 17], [17])])
def lombardlaw05_IsinSlips.B14 : List Nat := [0, 1, 3, 7, 15, 3, 3, 99, 3, 3, 515, 1795, 4067, 8191, 16383, 32767, 65535, 131071, 262143]
theorem lombardlaw05_IsinSlips.tab14 : rtab .any (opsOf Try.f4 14) = lombardlaw05_IsinSlips.T14 := by kernel_rfl
theorem lombardlaw05_IsinSlips.bits14 : waitsOk lombardlaw05_IsinSlips.T14.2 lombardlaw05_IsinSlips.B14 = true := by kernel_rfl
set_option maxHeartbeats 8000000 in
set_option maxRecDepth 100000 in
theorem lombardlaw05_IsinSlips.calls (k : Nat) (a0 : ByteArray) (a1 : Int) (a2 : Int) (r : Bool) (w : World) (h : lombardlaw05_IsinSlips.f k a0 a1 a2 = some r) :
    Calls Try.prog 4 #[.string a0, .int .u64 a1, .int .u8 a2] w fun e w' => e = .returned (.bool r) ∧ Below w.heap.size w w' := by
  have HB := Aside0.mk (Below.refl w.heap.size w)
  have H : ((I.lombardref05_Check.f k a0).bind fun t101 => (if t101 = 0 then (if 0 ≤ (wrap64 (Int.tmod a1 12)) then (if (wrap64 (Int.tmod a1 12)) < (a0.size : Int) then (if (bt a0 (wrap64 (Int.tmod a1 12))) < 48 then (lombardlaw05_IsinSlips.j0 k a0 a2 (wrap64 (Int.tmod a1 12)) true) else (lombardlaw05_IsinSlips.j0 k a0 a2 (wrap64 (Int.tmod a1 12)) (decide ((bt a0 (wrap64 (Int.tmod a1 12))) > 57)))) else (none)) else (none)) else ((I.lombardlaw05_awake.f k).bind fun t102 => (some t102)))) = some r := h
  clear h
  replace H := Option.bind_eq_some_iff.mp H
  obtain ⟨t101, A40, H⟩ := H
  replace H : (if t101 = 0 then (if 0 ≤ (wrap64 (Int.tmod a1 12)) then (if (wrap64 (Int.tmod a1 12)) < (a0.size : Int) then (if (bt a0 (wrap64 (Int.tmod a1 12))) < 48 then (lombardlaw05_IsinSlips.j0 k a0 a2 (wrap64 (Int.tmod a1 12)) true) else (lombardlaw05_IsinSlips.j0 k a0 a2 (wrap64 (Int.tmod a1 12)) (decide ((bt a0 (wrap64 (Int.tmod a1 12))) > 57)))) else (none)) else (none)) else ((I.lombardlaw05_awake.f k).bind fun t102 => (some t102))) = some r := H
  have A4 := Aside0.mk A40
  clear A40
  by_cases c5 : t101 = 0
  · rw [if_pos c5] at H
    have c5b0 : (t101 == 0) = true := beq_iff_eq.mpr c5
    have c5b1 : (t101 != 0) = false := bne_eq_false_iff_eq.mpr c5
    clear c5
    have HC6 := Aside0.mk H
    clear H
    go_enter Try.func4, Try.ntmps4
    go_upto_region 4 with (first | ((with_reducible refine gate_callee (f := 11) rfl ?_); refine goesL_ (some 13) rfl rfl Try.func11 (by kernel_rfl) rfl #[.string a0] rfl (by (try simp only [List.map_toArray, List.map_cons, List.map_nil]); first | done | rfl | (simp only [List.length_drop, List.length_take]; rfl)) ?_; (with_reducible refine (I.lombardref05_Check.calls k a0 t101 _ A4.out).mono ?_); rintro e w7 ⟨rfl, hb⟩; refine ⟨_, rfl, ?_⟩; have n0_ := Aside0.mk (below_step (by repeat (first | (with_reducible first | exact HB.out | apply below_alloc | apply pw_below_drewN | apply below_drew1) | exact HB.out)) hb); clear HB; have HB := n0_; clear n0_; (try clear hb); (try clear hb2); (try clear hk); (try clear hi)))
    (try simp only [Act.put, List.setIfInBounds_toArray, List.set_cons_zero, List.set_cons_succ])
    go_cut [28] (fun v28 wc => ∃ (kq : Nat) (x28_5 : Bool), v28 = .bool x28_5 ∧ Aside0 (lombardlaw05_IsinSlips.j0 kq a0 a2 (wrap64 (Int.tmod a1 12)) x28_5 = some r) ∧ Aside0 (kq ≤ k) ∧ Aside0 (Below w.heap.size w wc))
    case first =>
      have H := HC6.out
      clear HC6
      obtain ⟨ji8, hji8⟩ : ∃ j_ : Int, (wrap64 (Int.tmod a1 12)) = j_ := ⟨_, rfl⟩
      replace H : (if 0 ≤ (ji8) then (if (ji8) < (a0.size : Int) then (if (bt a0 (ji8)) < 48 then (lombardlaw05_IsinSlips.j0 k a0 a2 ji8 true) else (lombardlaw05_IsinSlips.j0 k a0 a2 ji8 (decide ((bt a0 (ji8)) > 57)))) else (none)) else (none)) = some r := by first | (rw [hji8] at H; exact H) | (simp only [hji8] at H ⊢; exact H)
      have hji8w : (IntKind.i64.wrap (Int.tmod a1 12)) = ji8 := (i64_w _).trans hji8
      by_cases c9 : 0 ≤ (ji8)
      · rw [if_pos c9] at H
        have c9b0 : decide (0 ≤ (ji8)) = true := decide_eq_true c9
        clear c9
        (first | rw [c9b0] | (simp only [i64_w, i32_w]; rw [c9b0]) | skip)
        by_cases c10 : (ji8) < (a0.size : Int)
        · rw [if_pos c10] at H
          have c10b0 : decide ((ji8) < (a0.size : Int)) = true := decide_eq_true c10
          clear c10
          by_cases c12 : (bt a0 (ji8)) < 48
          · rw [if_pos c12] at H
            have c12b0 : decide ((bt a0 (ji8)) < 48) = true := decide_eq_true c12
            clear c12
            have H' := Aside0.mk H
            clear H
            have p11 : 0 ≤ ((ji8) : Int) := of_decide_eq_true (by first | (with_reducible assumption) | assumption)
            have q11 : (ji8) < (a0.size : Int) := of_decide_eq_true (by first | (with_reducible assumption) | assumption)
            have hx11 := bt_at a0 (ji8)
            replace p11 := eq_true p11
            replace q11 := eq_true q11
            go_wp2
            go_meet
            case rel => exact ⟨_, (true), (by first | rfl | (simp; done) | (simp [*]; done)), (by rw [hji8]; exact H'), ⟨by first | omega | exact Nat.le_refl _⟩, ⟨by repeat (first | (with_reducible first | exact HB.out | apply below_alloc | apply pw_below_drewN | apply below_drew1) | exact HB.out)⟩⟩
          · rw [if_neg c12] at H
            have c12b0 : decide ((bt a0 (ji8)) < 48) = false := decide_eq_false c12
            clear c12
            have H' := Aside0.mk H
            clear H
            have p11 : 0 ≤ ((ji8) : Int) := of_decide_eq_true (by first | (with_reducible assumption) | assumption)
            have q11 : (ji8) < (a0.size : Int) := of_decide_eq_true (by first | (with_reducible assumption) | assumption)
            have hx11 := bt_at a0 (ji8)
            replace p11 := eq_true p11
            replace q11 := eq_true q11
            have p13 : 0 ≤ ((ji8) : Int) := of_decide_eq_true (by first | (with_reducible assumption) | assumption)
            have q13 : (ji8) < (a0.size : Int) := of_decide_eq_true (by first | (with_reducible assumption) | assumption)
            have hx13 := bt_at a0 (ji8)
            replace p13 := eq_true p13
            replace q13 := eq_true q13
            go_wp2
            go_meet
            case rel => exact ⟨_, (decide ((bt a0 (ji8)) > 57)), (by first | rfl | (simp; done) | (simp only [← hji8] <;> (first | rfl | simp)) | (simp [*]; done)), (by rw [hji8]; exact H'), ⟨by first | omega | exact Nat.le_refl _⟩, ⟨by repeat (first | (with_reducible first | exact HB.out | apply below_alloc | apply pw_below_drewN | apply below_drew1) | exact HB.out)⟩⟩
        · rw [if_neg c10] at H
          exact absurd H (by simp)
      · rw [if_neg c9] at H
        exact absurd H (by simp)
    case rest =>
      clear HC6
      try clear c1
      try clear p1
      try clear q1
      try clear hx1
      try clear p2
      try clear c4
      try clear c5
      try clear c5b0
      try clear c5b1
      try clear p6
      try clear c9
      try clear c9b0
      try clear c10
      try clear c10b0
      try clear c11
      try clear p11
      try clear q11
      try clear hx11
      try clear c12
      try clear c12b0
      try clear p13
      try clear q13
      try clear hx13
      try clear p11
      try clear p13
      try clear q11
      try clear q13
      obtain ⟨kq, x28_5, rfl, HA, HJ5, HB⟩ := hcut
      cases kq with
      | zero => exact absurd HA.out (by simp [lombardlaw05_IsinSlips.j0])
      | succ kj5 =>
        have H := HA.out
        clear HA
        simp only [lombardlaw05_IsinSlips.j0] at H
        by_cases c14 : x28_5 = true
        · subst c14
          have H1 : ((I.lombardlaw05_awake.f kj5).bind fun t103 => (some t103)) = some r := by rw [if_pos rfl] at H; exact H
          clear H
          have H := H1
          clear H1
          replace H := Option.bind_eq_some_iff.mp H
          obtain ⟨t103, A150, H⟩ := H
          replace H : (some t103) = some r := H
          have A15 := Aside0.mk A150
          clear A150
          obtain rfl := Option.some.inj H
          go_wp2_with (first | ((with_reducible refine gate_callee (f := 12) rfl ?_); refine goesL_ (some 29) rfl rfl Try.func12 (by kernel_rfl) rfl #[] rfl (by (try simp only [List.map_toArray, List.map_cons, List.map_nil]); first | done | rfl | (simp only [List.length_drop, List.length_take]; rfl)) ?_; (with_reducible refine (I.lombardlaw05_awake.calls kj5  t103 _ A15.out).mono ?_); rintro e w16 ⟨rfl, hb⟩; refine ⟨_, rfl, ?_⟩; have n0_ := Aside0.mk (below_step (by repeat (first | (with_reducible first | exact HB.out | apply below_alloc | apply pw_below_drewN | apply below_drew1) | exact HB.out)) hb); clear HB; have HB := n0_; clear n0_; (try clear hb); (try clear hb2); (try clear hk); (try clear hi)))
          go_ret
          exact ⟨by first | rfl | (simp [errW_none, errW_some] <;> rfl) | (simp [*, errW_none, errW_some] <;> rfl), by repeat (first | (with_reducible first | exact HB.out | apply below_alloc | apply pw_below_drewN | apply below_drew1) | exact HB.out)⟩
        · replace c14 := Bool.eq_false_iff.mpr c14
          subst c14
          have H1 : (if 0 ≤ (wrap64 (Int.tmod a1 12)) then (if (wrap64 (Int.tmod a1 12)) ≤ (a0.size : Int) then ((some (([(48 + (Int.tmod a2 10)) % 256] : List Int) : List Int)).bind fun y104 => (if (a0.extract 0 ((wrap64 (Int.tmod a1 12)) : Int).toNat).size + (strOfNums y104).size ≤ 9223372036854775807 then (if 0 ≤ (wrap64 ((wrap64 (Int.tmod a1 12)) + 1)) then (if (wrap64 ((wrap64 (Int.tmod a1 12)) + 1)) ≤ (a0.size : Int) then (if ((a0.extract 0 ((wrap64 (Int.tmod a1 12)) : Int).toNat) ++ (strOfNums y104)).size + (a0.extract ((wrap64 ((wrap64 (Int.tmod a1 12)) + 1)) : Int).toNat a0.size).size ≤ 9223372036854775807 then ((I.isin_Check.f kj5 (((a0.extract 0 ((wrap64 (Int.tmod a1 12)) : Int).toNat) ++ (strOfNums y104)) ++ (a0.extract ((wrap64 ((wrap64 (Int.tmod a1 12)) + 1)) : Int).toNat a0.size))).bind fun t107 => (if (wrap64 (Int.tmod a1 12)) < (a0.size : Int) then (if ((t107 == 0) != (((48 + (Int.tmod a2 10)) % 256) == (bt a0 (wrap64 (Int.tmod a1 12))))) = true then (some false) else (if (wrap64 (Int.tmod a1 12)) = 11 then (lombardlaw05_IsinSlips.j1 kj5 a0 (wrap64 (Int.tmod a1 12)) true) else (if (wrap64 ((wrap64 (Int.tmod a1 12)) + 1)) < (a0.size : Int) then (if (bt a0 (wrap64 ((wrap64 (Int.tmod a1 12)) + 1))) < 48 then (lombardlaw05_IsinSlips.j1 kj5 a0 (wrap64 (Int.tmod a1 12)) true) else (lombardlaw05_IsinSlips.j1 kj5 a0 (wrap64 (Int.tmod a1 12)) (decide ((bt a0 (wrap64 ((wrap64 (Int.tmod a1 12)) + 1))) > 57)))) else (none)))) else (none))) else (none)) else (none)) else (none)) else (none))) else (none)) else (none)) = some r := by rw [if_neg (show ¬ (false = true) by decide)] at H; exact H
          clear H
          have H := H1
          clear H1
          obtain ⟨ji17, hji17⟩ : ∃ j_ : Int, (wrap64 (Int.tmod a1 12)) = j_ := ⟨_, rfl⟩
          replace H : (if 0 ≤ (ji17) then (if (ji17) ≤ (a0.size : Int) then ((some (([(48 + (Int.tmod a2 10)) % 256] : List Int) : List Int)).bind fun y104 => (if (a0.extract 0 ((ji17) : Int).toNat).size + (strOfNums y104).size ≤ 9223372036854775807 then (if 0 ≤ (wrap64 ((ji17) + 1)) then (if (wrap64 ((ji17) + 1)) ≤ (a0.size : Int) then (if ((a0.extract 0 ((ji17) : Int).toNat) ++ (strOfNums y104)).size + (a0.extract ((wrap64 ((ji17) + 1)) : Int).toNat a0.size).size ≤ 9223372036854775807 then ((I.isin_Check.f kj5 (((a0.extract 0 ((ji17) : Int).toNat) ++ (strOfNums y104)) ++ (a0.extract ((wrap64 ((ji17) + 1)) : Int).toNat a0.size))).bind fun t107 => (if (ji17) < (a0.size : Int) then (if ((t107 == 0) != (((48 + (Int.tmod a2 10)) % 256) == (bt a0 (ji17)))) = true then (some false) else (if (ji17) = 11 then (lombardlaw05_IsinSlips.j1 kj5 a0 (ji17) true) else (if (wrap64 ((ji17) + 1)) < (a0.size : Int) then (if (bt a0 (wrap64 ((ji17) + 1))) < 48 then (lombardlaw05_IsinSlips.j1 kj5 a0 (ji17) true) else (lombardlaw05_IsinSlips.j1 kj5 a0 (ji17) (decide ((bt a0 (wrap64 ((ji17) + 1))) > 57)))) else (none)))) else (none))) else (none)) else (none)) else (none)) else (none))) else (none)) else (none)) = some r := by first | (rw [hji17] at H; exact H) | (simp only [hji17] at H ⊢; exact H)
          have hji17w : (IntKind.i64.wrap (Int.tmod a1 12)) = ji17 := (i64_w _).trans hji17
          by_cases c18 : 0 ≤ (ji17)
          · rw [if_pos c18] at H
            have c18b0 := eq_true c18
            have c18b1 : decide (0 ≤ (ji17)) = true := decide_eq_true c18
            clear c18
            by_cases c19 : (ji17) ≤ (a0.size : Int)
            · rw [if_pos c19] at H
              have c19b0 := eq_true c19
              have c19b1 : decide ((ji17) ≤ (a0.size : Int)) = true := decide_eq_true c19
              clear c19
              obtain ⟨y104, hy104⟩ : ∃ y_ : List Int, y_ = (([(48 + (Int.tmod a2 10)) % 256] : List Int)) := ⟨_, rfl⟩
              replace H : (if (a0.extract 0 ((ji17) : Int).toNat).size + (strOfNums y104).size ≤ 9223372036854775807 then (if 0 ≤ (wrap64 ((ji17) + 1)) then (if (wrap64 ((ji17) + 1)) ≤ (a0.size : Int) then (if ((a0.extract 0 ((ji17) : Int).toNat) ++ (strOfNums y104)).size + (a0.extract ((wrap64 ((ji17) + 1)) : Int).toNat a0.size).size ≤ 9223372036854775807 then ((I.isin_Check.f kj5 (((a0.extract 0 ((ji17) : Int).toNat) ++ (strOfNums y104)) ++ (a0.extract ((wrap64 ((ji17) + 1)) : Int).toNat a0.size))).bind fun t107 => (if (ji17) < (a0.size : Int) then (if ((t107 == 0) != (((48 + (Int.tmod a2 10)) % 256) == (bt a0 (ji17)))) = true then (some false) else (if (ji17) = 11 then (lombardlaw05_IsinSlips.j1 kj5 a0 (ji17) true) else (if (wrap64 ((ji17) + 1)) < (a0.size : Int) then (if (bt a0 (wrap64 ((ji17) + 1))) < 48 then (lombardlaw05_IsinSlips.j1 kj5 a0 (ji17) true) else (lombardlaw05_IsinSlips.j1 kj5 a0 (ji17) (decide ((bt a0 (wrap64 ((ji17) + 1))) > 57)))) else (none)))) else (none))) else (none)) else (none)) else (none)) else (none)) = some r := by first | (rw [hy104]; with_reducible exact H) | (have H2_ := (Option.bind_some _ _).symm.trans H; rw [hy104]; with_reducible exact H2_) | (have H2_ := (Option.bind_some _ _).symm.trans H; with_reducible exact H2_) | with_reducible exact H | (rw [hy104]; exact H) | exact H
              have Ny104 := Aside0.mk hy104
              clear hy104
              by_cases c20 : (a0.extract 0 ((ji17) : Int).toNat).size + (strOfNums y104).size ≤ 9223372036854775807
              · rw [if_pos c20] at H
                have c20b0 := eq_true c20
                have c20b1 : decide ((a0.extract 0 ((ji17) : Int).toNat).size + (strOfNums y104).size ≤ 9223372036854775807) = true := decide_eq_true c20
                try have c20b2 : (9223372036854775807 < (a0.extract 0 ((ji17) : Int).toNat).size + (strOfNums y104).size) = False := eq_false (Nat.not_lt.2 c20)
                try (have c20b3 := Nat.not_lt.2 c20; simp [-Nat.not_lt, Go.ByteArray.size_mk'] at c20b3)
                have c20m := Nat.min_eq_left (Int.toNat_le.2 (of_decide_eq_true (by first | exact c19b1 | exact c51b1)))
                try (have c20b4 := Nat.not_lt.2 c20; simp [-Nat.not_lt, Go.ByteArray.size_mk', c20m] at c20b4)
                clear c20m
                obtain ⟨ji21, hji21⟩ : ∃ j_ : Int, (wrap64 ((ji17) + 1)) = j_ := ⟨_, rfl⟩
                replace H : (if 0 ≤ (ji21) then (if (ji21) ≤ (a0.size : Int) then (if ((a0.extract 0 ((ji17) : Int).toNat) ++ (strOfNums y104)).size + (a0.extract ((ji21) : Int).toNat a0.size).size ≤ 9223372036854775807 then ((I.isin_Check.f kj5 (((a0.extract 0 ((ji17) : Int).toNat) ++ (strOfNums y104)) ++ (a0.extract ((ji21) : Int).toNat a0.size))).bind fun t107 => (if (ji17) < (a0.size : Int) then (if ((t107 == 0) != (((48 + (Int.tmod a2 10)) % 256) == (bt a0 (ji17)))) = true then (some false) else (if (ji17) = 11 then (lombardlaw05_IsinSlips.j1 kj5 a0 (ji17) true) else (if (ji21) < (a0.size : Int) then (if (bt a0 (ji21)) < 48 then (lombardlaw05_IsinSlips.j1 kj5 a0 (ji17) true) else (lombardlaw05_IsinSlips.j1 kj5 a0 (ji17) (decide ((bt a0 (ji21)) > 57)))) else (none)))) else (none))) else (none)) else (none)) else (none)) = some r := by first | (rw [hji21] at H; exact H) | (simp only [hji21] at H ⊢; exact H)
                have hji21w : (IntKind.i64.wrap ((ji17) + 1)) = ji21 := (i64_w _).trans hji21
                by_cases c22 : 0 ≤ (ji21)
                · rw [if_pos c22] at H
                  have c22b0 := eq_true c22
                  have c22b1 : decide (0 ≤ (ji21)) = true := decide_eq_true c22
                  clear c22
                  by_cases c23 : (ji21) ≤ (a0.size : Int)
                  · rw [if_pos c23] at H
                    have c23b0 := eq_true c23
                    have c23b1 : decide ((ji21) ≤ (a0.size : Int)) = true := decide_eq_true c23
                    clear c23
                    by_cases c24 : ((a0.extract 0 ((ji17) : Int).toNat) ++ (strOfNums y104)).size + (a0.extract ((ji21) : Int).toNat a0.size).size ≤ 9223372036854775807
                    · rw [if_pos c24] at H
                      have c24b0 := eq_true c24
                      have c24b1 : decide (((a0.extract 0 ((ji17) : Int).toNat) ++ (strOfNums y104)).size + (a0.extract ((ji21) : Int).toNat a0.size).size ≤ 9223372036854775807) = true := decide_eq_true c24
                      try have c24b2 : (9223372036854775807 < ((a0.extract 0 ((ji17) : Int).toNat) ++ (strOfNums y104)).size + (a0.extract ((ji21) : Int).toNat a0.size).size) = False := eq_false (Nat.not_lt.2 c24)
                      try (have c24b3 := Nat.not_lt.2 c24; simp [-Nat.not_lt, Go.ByteArray.size_mk'] at c24b3)
                      have c24m := Nat.min_eq_left (Int.toNat_le.2 (of_decide_eq_true (by first | exact c19b1 | exact c51b1)))
                      try (have c24b4 := Nat.not_lt.2 c24; simp [-Nat.not_lt, Go.ByteArray.size_mk', c24m] at c24b4)
                      clear c24m
                      replace H := Option.bind_eq_some_iff.mp H
                      obtain ⟨t107, A250, H⟩ := H
                      replace H : (if (ji17) < (a0.size : Int) then (if ((t107 == 0) != (((48 + (Int.tmod a2 10)) % 256) == (bt a0 (ji17)))) = true then (some false) else (if (ji17) = 11 then (lombardlaw05_IsinSlips.j1 kj5 a0 (ji17) true) else (if (ji21) < (a0.size : Int) then (if (bt a0 (ji21)) < 48 then (lombardlaw05_IsinSlips.j1 kj5 a0 (ji17) true) else (lombardlaw05_IsinSlips.j1 kj5 a0 (ji17) (decide ((bt a0 (ji21)) > 57)))) else (none)))) else (none)) = some r := H
                      have A25 := Aside0.mk A250
                      clear A250
                      by_cases c26 : (ji17) < (a0.size : Int)
                      · rw [if_pos c26] at H
                        have c26b0 : decide ((ji17) < (a0.size : Int)) = true := decide_eq_true c26
                        clear c26
                        by_cases c28 : ((t107 == 0) != (((48 + (Int.tmod a2 10)) % 256) == (bt a0 (ji17)))) = true
                        · rw [if_pos c28] at H
                          have c28b0 : ((t107 == 0) != (((48 + (Int.tmod a2 10)) % 256) == (bt a0 (ji17)))) = true := c28
                          (try (have c28b1 : decide ((t107 == 0) = (((48 + (Int.tmod a2 10)) % 256) == (bt a0 (ji17)))) = false := by simpa using c28))
                          (try (have c28b2 : ((t107 == 0) == (((48 + (Int.tmod a2 10)) % 256) == (bt a0 (ji17)))) = false := by simpa using c28))
                          (try (have c28b3 : ¬ ((t107 == 0) = (((48 + (Int.tmod a2 10)) % 256) == (bt a0 (ji17)))) := by simpa using c28))
                          clear c28
                          obtain rfl := Option.some.inj H
                          try go_wp2
                          have n0_ := Aside0.mk (below_drew1 HB.out)
                          clear HB
                          have HB := n0_
                          clear n0_
                          refine start_ (n := 13) (S := fun w' => True) (ds := []) #[false, false, false, false, false, false, false, false, false, false, false, false, false] (by kernel_rfl) rfl rfl trivial (fun hHeld => ?_); refine with_tabW lombardlaw05_IsinSlips.tab7 lombardlaw05_IsinSlips.bits7 (fun HT_ HW_ => ?_)
                          generalize wc.drew = w29 at HB hHeld ⊢
                          refine pure_ (i := 0) (N := some 33) (v := ?_) (a' := ?_) #[true, false, false, false, false, false, false, false, false, false, false, false, false] rfl rfl (any_of HT_.out (by kernel_rfl)) (fun _ _ _ h => h) (Or.inl ⟨by rfl, ?_⟩) ?_ ?_
                          rotate_left
                          · intro w'
                            go_simp
                            with_reducible rfl
                          rotate_left
                          · simp only [Act.put, List.setIfInBounds_toArray, List.set_cons_zero, List.set_cons_succ, i64_w, i32_w]
                            rfl
                          refine pure_ (i := 1) (N := some 34) (v := ?_) (a' := ?_) #[true, true, false, false, false, false, false, false, false, false, false, false, false] rfl rfl (any_of HT_.out (by kernel_rfl)) (fun _ _ _ h => h) (Or.inl ⟨by rfl, ?_⟩) ?_ ?_
                          rotate_left
                          · intro w'
                            go_simp
                            with_reducible rfl
                          rotate_left
                          · simp only [Act.put, List.setIfInBounds_toArray, List.set_cons_zero, List.set_cons_succ, i64_w, i32_w]
                            rfl
                          refine pure_ (i := 2) (N := some 35) (v := ?_) (a' := ?_) #[true, true, true, false, false, false, false, false, false, false, false, false, false] rfl rfl (any_of HT_.out (by kernel_rfl)) (fun _ _ _ h => h) (Or.inl ⟨by rfl, ?_⟩) ?_ ?_
                          rotate_left
                          · intro w'
                            go_simp
                            with_reducible rfl
                          rotate_left
                          · simp only [Act.put, List.setIfInBounds_toArray, List.set_cons_zero, List.set_cons_succ, i64_w, i32_w]
                            rfl
                          refine pure_ (i := 3) (N := some 36) (v := ?_) (a' := ?_) #[true, true, true, true, false, false, false, false, false, false, false, false, false] rfl rfl (any_of HT_.out (by kernel_rfl)) (fun _ _ _ h => h) (Or.inl ⟨by rfl, ?_⟩) ?_ ?_
                          rotate_left
                          · intro w'
                            go_simp
                            with_reducible rfl
                          rotate_left
                          · simp only [Act.put, List.setIfInBounds_toArray, List.set_cons_zero, List.set_cons_succ, i64_w, i32_w]
                            rfl
                          refine pure_ (i := 7) (N := some 40) (v := ?_) (a' := ?_) #[true, true, true, true, false, false, false, true, false, false, false, false, false] rfl rfl (any_of HT_.out (by kernel_rfl)) (fun _ _ _ h => h) (Or.inl ⟨by rfl, ?_⟩) ?_ ?_
                          rotate_left
                          · intro w'
                            go_simp
                            with_reducible rfl
                          rotate_left
                          · simp only [Act.put, List.setIfInBounds_toArray, List.set_cons_zero, List.set_cons_succ, i64_w, i32_w]
                            rfl
                          refine pure_ (i := 8) (N := some 41) (v := ?_) (a' := ?_) #[true, true, true, true, false, false, false, true, true, false, false, false, false] rfl rfl (any_of HT_.out (by kernel_rfl)) (fun _ _ _ h => h) (Or.inl ⟨by rfl, ?_⟩) ?_ ?_
                          rotate_left
                          · intro w'
                            go_simp
                            with_reducible rfl
                          rotate_left
                          · simp only [Act.put, List.setIfInBounds_toArray, List.set_cons_zero, List.set_cons_succ, i64_w, i32_w]
                            rfl
                          refine pure_ (i := 9) (N := some 42) (v := ?_) (a' := ?_) #[true, true, true, true, false, false, false, true, true, true, false, false, false] rfl rfl (any_of HT_.out (by kernel_rfl)) (fun _ _ _ h => h) (Or.inl ⟨by rfl, ?_⟩) ?_ ?_
                          rotate_left
                          · intro w'
                            go_simp
                            with_reducible rfl
                          rotate_left
                          · simp only [Act.put, List.setIfInBounds_toArray, List.set_cons_zero, List.set_cons_succ, i64_w, i32_w]
                            rfl
                          refine pure_ (i := 10) (N := some 43) (v := ?_) (a' := ?_) #[true, true, true, true, false, false, false, true, true, true, true, false, false] rfl rfl (any_of HT_.out (by kernel_rfl)) (fun _ _ _ h => h) (Or.inl ⟨by rfl, ?_⟩) ?_ ?_
                          rotate_left
                          · intro w'
                            go_simp
                            with_reducible rfl
                          rotate_left
                          · simp only [Act.put, List.setIfInBounds_toArray, List.set_cons_zero, List.set_cons_succ, i64_w, i32_w]
                            rfl
                          refine one_ (i := 4) (N := some 37) #[true, true, true, true, true, false, false, true, true, true, true, false, false] rfl rfl (one_of HT_.out (by kernel_rfl)) (by decide) (fun K hK => ?_)
                          refine Kd.R_lit_step (Kd.int .u8) _ 5 ?hg (N := 37) ?hd (xs := ([(48 + (Int.tmod a2 10)) % 256] : List Int)) (inner := [.int .u8 ((48 + (Int.tmod a2 10)) % 256)]) (ok := fun _ => True) (okp := fun _ => True) ?hr ?hp (fun _ hk => hk) trivial (Below.refl _ _) (Nat.le_refl _) (by simp) ?_; (case hd => rfl); (case hg => rfl); (case hr => first | (go_simp; done) | (go_simp; rfl)); (case hp => exact (Reps.one (show Kd.M (Kd.int .u8) _ _ _ ((48 + (Int.tmod a2 10)) % 256) [.int .u8 ((48 + (Int.tmod a2 10)) % 256)] from rfl) (Reps.none _ _)))
                          intro v105 w30 ho31 hb hg_ hnew_
                          clear hg_ hnew_
                          (first | rw [← Ny104.out] at ho31 | (simp only [Int.reduceToNat] at ho31; rw [← Ny104.out] at ho31))
                          have n0_ := Aside0.mk (Kd.R_lower ho31 (below_size (by repeat (first | (with_reducible first | exact HB.out | apply below_alloc | apply pw_below_drewN | apply below_drew1) | exact HB.out))))
                          have n1_ := Aside0.mk (below_step (by repeat (first | (with_reducible first | exact HB.out | apply below_alloc | apply pw_below_drewN | apply below_drew1) | exact HB.out)) hb)
                          clear HB
                          have HO106 := n0_
                          have HB := n1_
                          clear n0_ n1_
                          clear hb ho31
                          refine hK.out _ _ trivial (fun hHeld => ?_)
                          clear hK K
                          refine norm_ (a' := ?_) ?_ ?_
                          rotate_left
                          · show Act.put _ (some 37) _ = _
                            simp only [Act.put, List.setIfInBounds_toArray, List.set_cons_zero, List.set_cons_succ, i64_w, i32_w]
                            rfl
                          refine one_ (i := 5) (N := some 38) #[true, true, true, true, true, true, false, true, true, true, true, false, false] rfl rfl (one_of HT_.out (by kernel_rfl)) (by decide) (fun K hK => ?_)
                          have hcv32 := own_string (P := Try.prog) Try.underlying32 Try.underlying5 Try.underlying9 (Kd.own_of_R HO106.out)
                          refine value_ (w1 := ?_) (v := ?_) (by rfl) rfl ?_ ?_
                          rotate_left 2
                          · go_simp
                            constructor
                            · rfl
                            · rfl
                          clear hcv32
                          refine hK.out _ _ trivial (fun hHeld => ?_)
                          clear hK K
                          refine norm_ (a' := ?_) ?_ ?_
                          rotate_left
                          · show Act.put _ (some 38) _ = _
                            simp only [Act.put, List.setIfInBounds_toArray, List.set_cons_zero, List.set_cons_succ, i64_w, i32_w]
                            rfl
                          refine pure_ (i := 6) (N := some 39) (v := ?_) (a' := ?_) #[true, true, true, true, true, true, true, true, true, true, true, false, false] rfl rfl (any_of HT_.out (by kernel_rfl)) (fun _ _ _ h => h) (Or.inl ⟨by rfl, ?_⟩) ?_ ?_
                          rotate_left
                          · intro w'
                            go_simp
                            with_reducible rfl
                          rotate_left
                          · simp only [Act.put, List.setIfInBounds_toArray, List.set_cons_zero, List.set_cons_succ, i64_w, i32_w]
                            rfl
                          refine pure_ (i := 11) (N := some 44) (v := ?_) (a' := ?_) #[true, true, true, true, true, true, true, true, true, true, true, true, false] rfl rfl (any_of HT_.out (by kernel_rfl)) (fun _ _ _ h => h) (Or.inl ⟨by rfl, ?_⟩) ?_ ?_
                          rotate_left
                          · intro w'
                            go_simp
                            with_reducible rfl
                          rotate_left
                          · simp only [Act.put, List.setIfInBounds_toArray, List.set_cons_zero, List.set_cons_succ, i64_w, i32_w]
                            rfl
                          refine pure_ (i := 12) (N := some 9) (v := ?_) (a' := ?_) #[true, true, true, true, true, true, true, true, true, true, true, true, true] rfl rfl (any_of HT_.out (by kernel_rfl)) (fun _ _ _ h => h) (Or.inl ⟨by rfl, ?_⟩) ?_ ?_
                          rotate_left
                          · intro w'
                            go_simp
                            with_reducible rfl
                          rotate_left
                          · simp only [Act.put, List.setIfInBounds_toArray, List.set_cons_zero, List.set_cons_succ, i64_w, i32_w]
                            rfl
                          refine done_ (done_of HT_.out (by kernel_rfl)) ?_
                          try go_wp2
                          have n0_ := Aside0.mk (Kd.R_drew HO106.out)
                          have n1_ := Aside0.mk (below_drew1 HB.out)
                          clear HO106
                          clear HB
                          have HO106 := n0_
                          have HB := n1_
                          clear n0_ n1_
                          have p27 : 0 ≤ ((ji17) : Int) := of_decide_eq_true (by first | (with_reducible assumption) | assumption)
                          have q27 : (ji17) < (a0.size : Int) := of_decide_eq_true (by first | (with_reducible assumption) | assumption)
                          have hx27 := bt_at a0 (ji17)
                          replace p27 := eq_true p27
                          replace q27 := eq_true q27
                          refine start_ (n := 9) (S := fun w' => True) (ds := []) #[false, false, false, false, false, false, false, false, false] (by kernel_rfl) rfl rfl trivial (fun hHeld => ?_); refine with_tabW lombardlaw05_IsinSlips.tab8 lombardlaw05_IsinSlips.bits8 (fun HT_ HW_ => ?_)
                          generalize w30.drew = w33 at HO106 HB hHeld ⊢
                          refine pure_ (i := 0) (N := some 45) (v := ?_) (a' := ?_) #[true, false, false, false, false, false, false, false, false] rfl rfl (any_of HT_.out (by kernel_rfl)) (fun _ _ _ h => h) (Or.inl ⟨by rfl, ?_⟩) ?_ ?_
                          rotate_left
                          · intro w'
                            go_simp
                            with_reducible rfl
                          rotate_left
                          · simp only [Act.put, List.setIfInBounds_toArray, List.set_cons_zero, List.set_cons_succ, i64_w, i32_w]
                            rfl
                          refine pure_ (i := 3) (N := some 48) (v := ?_) (a' := ?_) #[true, false, false, true, false, false, false, false, false] rfl rfl (any_of HT_.out (by kernel_rfl)) (fun _ _ _ h => h) (Or.inl ⟨by rfl, ?_⟩) ?_ ?_
                          rotate_left
                          · intro w'
                            go_simp
                            with_reducible rfl
                          rotate_left
                          · simp only [Act.put, List.setIfInBounds_toArray, List.set_cons_zero, List.set_cons_succ, i64_w, i32_w]
                            rfl
                          refine pure_ (i := 4) (N := some 49) (v := ?_) (a' := ?_) #[true, false, false, true, true, false, false, false, false] rfl rfl (any_of HT_.out (by kernel_rfl)) (fun _ _ _ h => h) (Or.inl ⟨by rfl, ?_⟩) ?_ ?_
                          rotate_left
                          · intro w'
                            go_simp
                            with_reducible rfl
                          rotate_left
                          · simp only [Act.put, List.setIfInBounds_toArray, List.set_cons_zero, List.set_cons_succ, i64_w, i32_w]
                            rfl
                          refine pure_ (i := 5) (N := some 50) (v := ?_) (a' := ?_) #[true, false, false, true, true, true, false, false, false] rfl rfl (any_of HT_.out (by kernel_rfl)) (fun _ _ _ h => h) (Or.inl ⟨by rfl, ?_⟩) ?_ ?_
                          rotate_left
                          · intro w'
                            go_simp
                            with_reducible rfl
                          rotate_left
                          · simp only [Act.put, List.setIfInBounds_toArray, List.set_cons_zero, List.set_cons_succ, i64_w, i32_w]
                            rfl
                          refine take_ (i := 6) (N := some 51) (v := ?_) (a' := ?_) #[true, false, false, true, true, true, true, false, false] rfl rfl (take_ofW HT_.out HW_.out (by kernel_rfl)) (fun _ _ _ h => h) (Or.inl ⟨by rfl, ?_⟩) hHeld ?_ ?_
                          rotate_left
                          · intro w' _
                            go_simp
                            with_reducible rfl
                          rotate_left
                          · simp only [Act.put, List.setIfInBounds_toArray, List.set_cons_zero, List.set_cons_succ, i64_w, i32_w]
                            rfl
                          refine pure_ (i := 7) (N := some 52) (v := ?_) (a' := ?_) #[true, false, false, true, true, true, true, true, false] rfl rfl (any_of HT_.out (by kernel_rfl)) (fun _ _ _ h => h) (Or.inl ⟨by rfl, ?_⟩) ?_ ?_
                          rotate_left
                          · intro w'
                            go_simp
                            with_reducible rfl
                          rotate_left
                          · simp only [Act.put, List.setIfInBounds_toArray, List.set_cons_zero, List.set_cons_succ, i64_w, i32_w]
                            rfl
                          refine one_ (i := 1) (N := some 46) #[true, true, false, true, true, true, true, true, false] rfl rfl (one_of HT_.out (by kernel_rfl)) (by decide) (fun K hK => ?_)
                          refine goes_ Try.func10 (by kernel_rfl) rfl #[.string (((a0.extract 0 ((ji17) : Int).toNat) ++ (strOfNums y104)) ++ (a0.extract ((ji21) : Int).toNat a0.size))] (by rfl) rfl rfl (by (try simp only [List.map_toArray, List.map_cons, List.map_nil]); first | done | (simp only [hji17, hji21]; rfl) | rfl | (simp only [List.length_drop, List.length_take]; rfl)) ?_
                          with_reducible refine (I.isin_Check.calls kj5 (((a0.extract 0 ((ji17) : Int).toNat) ++ (strOfNums y104)) ++ (a0.extract ((ji21) : Int).toNat a0.size)) t107 _ A25.out).mono ?_
                          rintro e w34 ⟨rfl, hb⟩
                          refine ⟨_, rfl, ?_⟩
                          have n0_ := Aside0.mk (Kd.R_below (by (with_reducible repeat (first | apply Kd.R_alloc | apply Kd.R_drewN | apply Kd.R_drew)); exact HO106.out) hb)
                          have n1_ := Aside0.mk (below_step (by repeat (first | (with_reducible first | exact HB.out | apply below_alloc | apply pw_below_drewN | apply below_drew1) | exact HB.out)) hb)
                          clear HO106
                          clear HB
                          have HO106 := n0_
                          have HB := n1_
                          clear n0_ n1_
                          (try clear hb)
                          (try clear hb2)
                          (try clear hk)
                          (try clear hi)
                          refine hK.out _ _ trivial (fun hHeld => ?_)
                          clear hK K
                          refine norm_ (a' := ?_) ?_ ?_
                          rotate_left
                          · show Act.put _ (some 46) _ = _
                            simp only [Act.put, List.setIfInBounds_toArray, List.set_cons_zero, List.set_cons_succ, i64_w, i32_w]
                            rfl
                          refine pure_ (i := 2) (N := some 47) (v := ?_) (a' := ?_) #[true, true, true, true, true, true, true, true, false] rfl rfl (any_of HT_.out (by kernel_rfl)) (fun _ _ _ h => h) (Or.inl ⟨by rfl, ?_⟩) ?_ ?_
                          rotate_left
                          · intro w'
                            go_simp
                            with_reducible rfl
                          rotate_left
                          · simp only [Act.put, List.setIfInBounds_toArray, List.set_cons_zero, List.set_cons_succ, i64_w, i32_w]
                            rfl
                          refine pure_ (i := 8) (N := some 53) (v := ?_) (a' := ?_) #[true, true, true, true, true, true, true, true, true] rfl rfl (any_of HT_.out (by kernel_rfl)) (fun _ _ _ h => h) (Or.inl ⟨by rfl, ?_⟩) ?_ ?_
                          rotate_left
                          · intro w'
                            go_simp
                            with_reducible rfl
                          rotate_left
                          · simp only [Act.put, List.setIfInBounds_toArray, List.set_cons_zero, List.set_cons_succ, i64_w, i32_w]
                            rfl
                          refine done_ (done_of HT_.out (by kernel_rfl)) ?_
                          try go_wp2
                          go_ret
                          exact ⟨by first | rfl | (simp [errW_none, errW_some] <;> rfl) | (simp only [← hji17, ← hji21]; first | rfl | (simp [errW_none, errW_some] <;> rfl)) | (simp [*, errW_none, errW_some] <;> rfl), by repeat (first | (with_reducible first | exact HB.out | apply below_alloc | apply pw_below_drewN | apply below_drew1) | exact HB.out)⟩
                        · rw [if_neg c28] at H
                          have c28b0 : ((t107 == 0) != (((48 + (Int.tmod a2 10)) % 256) == (bt a0 (ji17)))) = false := by simpa using c28
                          (try (have c28b1 : decide ((t107 == 0) = (((48 + (Int.tmod a2 10)) % 256) == (bt a0 (ji17)))) = true := by simpa using c28))
                          (try (have c28b2 : ((t107 == 0) == (((48 + (Int.tmod a2 10)) % 256) == (bt a0 (ji17)))) = true := by simpa using c28))
                          clear c28
                          have HC35 := Aside0.mk H
                          clear H
                          try go_wp2
                          have n0_ := Aside0.mk (below_drew1 HB.out)
                          clear HB
                          have HB := n0_
                          clear n0_
                          refine start_ (n := 13) (S := fun w' => True) (ds := []) #[false, false, false, false, false, false, false, false, false, false, false, false, false] (by kernel_rfl) rfl rfl trivial (fun hHeld => ?_); refine with_tabW lombardlaw05_IsinSlips.tab7 lombardlaw05_IsinSlips.bits7 (fun HT_ HW_ => ?_)
                          generalize wc.drew = w36 at HB hHeld ⊢
                          refine pure_ (i := 0) (N := some 33) (v := ?_) (a' := ?_) #[true, false, false, false, false, false, false, false, false, false, false, false, false] rfl rfl (any_of HT_.out (by kernel_rfl)) (fun _ _ _ h => h) (Or.inl ⟨by rfl, ?_⟩) ?_ ?_
                          rotate_left
                          · intro w'
                            go_simp
                            with_reducible rfl
                          rotate_left
                          · simp only [Act.put, List.setIfInBounds_toArray, List.set_cons_zero, List.set_cons_succ, i64_w, i32_w]
                            rfl
                          refine pure_ (i := 1) (N := some 34) (v := ?_) (a' := ?_) #[true, true, false, false, false, false, false, false, false, false, false, false, false] rfl rfl (any_of HT_.out (by kernel_rfl)) (fun _ _ _ h => h) (Or.inl ⟨by rfl, ?_⟩) ?_ ?_
                          rotate_left
                          · intro w'
                            go_simp
                            with_reducible rfl
                          rotate_left
                          · simp only [Act.put, List.setIfInBounds_toArray, List.set_cons_zero, List.set_cons_succ, i64_w, i32_w]
                            rfl
                          refine pure_ (i := 2) (N := some 35) (v := ?_) (a' := ?_) #[true, true, true, false, false, false, false, false, false, false, false, false, false] rfl rfl (any_of HT_.out (by kernel_rfl)) (fun _ _ _ h => h) (Or.inl ⟨by rfl, ?_⟩) ?_ ?_
                          rotate_left
                          · intro w'
                            go_simp
                            with_reducible rfl
                          rotate_left
                          · simp only [Act.put, List.setIfInBounds_toArray, List.set_cons_zero, List.set_cons_succ, i64_w, i32_w]
                            rfl
                          refine pure_ (i := 3) (N := some 36) (v := ?_) (a' := ?_) #[true, true, true, true, false, false, false, false, false, false, false, false, false] rfl rfl (any_of HT_.out (by kernel_rfl)) (fun _ _ _ h => h) (Or.inl ⟨by rfl, ?_⟩) ?_ ?_
                          rotate_left
                          · intro w'
                            go_simp
                            with_reducible rfl
                          rotate_left
                          · simp only [Act.put, List.setIfInBounds_toArray, List.set_cons_zero, List.set_cons_succ, i64_w, i32_w]
                            rfl
                          refine pure_ (i := 7) (N := some 40) (v := ?_) (a' := ?_) #[true, true, true, true, false, false, false, true, false, false, false, false, false] rfl rfl (any_of HT_.out (by kernel_rfl)) (fun _ _ _ h => h) (Or.inl ⟨by rfl, ?_⟩) ?_ ?_
                          rotate_left
                          · intro w'
                            go_simp
                            with_reducible rfl
                          rotate_left
                          · simp only [Act.put, List.setIfInBounds_toArray, List.set_cons_zero, List.set_cons_succ, i64_w, i32_w]
                            rfl
                          refine pure_ (i := 8) (N := some 41) (v := ?_) (a' := ?_) #[true, true, true, true, false, false, false, true, true, false, false, false, false] rfl rfl (any_of HT_.out (by kernel_rfl)) (fun _ _ _ h => h) (Or.inl ⟨by rfl, ?_⟩) ?_ ?_
                          rotate_left
                          · intro w'
                            go_simp
                            with_reducible rfl
                          rotate_left
                          · simp only [Act.put, List.setIfInBounds_toArray, List.set_cons_zero, List.set_cons_succ, i64_w, i32_w]
                            rfl
                          refine pure_ (i := 9) (N := some 42) (v := ?_) (a' := ?_) #[true, true, true, true, false, false, false, true, true, true, false, false, false] rfl rfl (any_of HT_.out (by kernel_rfl)) (fun _ _ _ h => h) (Or.inl ⟨by rfl, ?_⟩) ?_ ?_
                          rotate_left
                          · intro w'
                            go_simp
                            with_reducible rfl
                          rotate_left
                          · simp only [Act.put, List.setIfInBounds_toArray, List.set_cons_zero, List.set_cons_succ, i64_w, i32_w]
                            rfl
                          refine pure_ (i := 10) (N := some 43) (v := ?_) (a' := ?_) #[true, true, true, true, false, false, false, true, true, true, true, false, false] rfl rfl (any_of HT_.out (by kernel_rfl)) (fun _ _ _ h => h) (Or.inl ⟨by rfl, ?_⟩) ?_ ?_
                          rotate_left
                          · intro w'
                            go_simp
                            with_reducible rfl
                          rotate_left
                          · simp only [Act.put, List.setIfInBounds_toArray, List.set_cons_zero, List.set_cons_succ, i64_w, i32_w]
                            rfl
                          refine one_ (i := 4) (N := some 37) #[true, true, true, true, true, false, false, true, true, true, true, false, false] rfl rfl (one_of HT_.out (by kernel_rfl)) (by decide) (fun K hK => ?_)
                          refine Kd.R_lit_step (Kd.int .u8) _ 5 ?hg (N := 37) ?hd (xs := ([(48 + (Int.tmod a2 10)) % 256] : List Int)) (inner := [.int .u8 ((48 + (Int.tmod a2 10)) % 256)]) (ok := fun _ => True) (okp := fun _ => True) ?hr ?hp (fun _ hk => hk) trivial (Below.refl _ _) (Nat.le_refl _) (by simp) ?_; (case hd => rfl); (case hg => rfl); (case hr => first | (go_simp; done) | (go_simp; rfl)); (case hp => exact (Reps.one (show Kd.M (Kd.int .u8) _ _ _ ((48 + (Int.tmod a2 10)) % 256) [.int .u8 ((48 + (Int.tmod a2 10)) % 256)] from rfl) (Reps.none _ _)))
                          intro v105 w37 ho38 hb hg_ hnew_
                          clear hg_ hnew_
                          (first | rw [← Ny104.out] at ho38 | (simp only [Int.reduceToNat] at ho38; rw [← Ny104.out] at ho38))
                          have n0_ := Aside0.mk (Kd.R_lower ho38 (below_size (by repeat (first | (with_reducible first | exact HB.out | apply below_alloc | apply pw_below_drewN | apply below_drew1) | exact HB.out))))
                          have n1_ := Aside0.mk (below_step (by repeat (first | (with_reducible first | exact HB.out | apply below_alloc | apply pw_below_drewN | apply below_drew1) | exact HB.out)) hb)
                          clear HB
                          have HO106 := n0_
                          have HB := n1_
                          clear n0_ n1_
                          clear hb ho38
                          refine hK.out _ _ trivial (fun hHeld => ?_)
                          clear hK K
                          refine norm_ (a' := ?_) ?_ ?_
                          rotate_left
                          · show Act.put _ (some 37) _ = _
                            simp only [Act.put, List.setIfInBounds_toArray, List.set_cons_zero, List.set_cons_succ, i64_w, i32_w]
                            rfl
                          refine one_ (i := 5) (N := some 38) #[true, true, true, true, true, true, false, true, true, true, true, false, false] rfl rfl (one_of HT_.out (by kernel_rfl)) (by decide) (fun K hK => ?_)
                          have hcv39 := own_string (P := Try.prog) Try.underlying32 Try.underlying5 Try.underlying9 (Kd.own_of_R HO106.out)
                          refine value_ (w1 := ?_) (v := ?_) (by rfl) rfl ?_ ?_
                          rotate_left 2
                          · go_simp
                            constructor
                            · rfl
                            · rfl
                          clear hcv39
                          refine hK.out _ _ trivial (fun hHeld => ?_)
                          clear hK K
                          refine norm_ (a' := ?_) ?_ ?_
                          rotate_left
                          · show Act.put _ (some 38) _ = _
                            simp only [Act.put, List.setIfInBounds_toArray, List.set_cons_zero, List.set_cons_succ, i64_w, i32_w]
                            rfl
                          refine pure_ (i := 6) (N := some 39) (v := ?_) (a' := ?_) #[true, true, true, true, true, true, true, true, true, true, true, false, false] rfl rfl (any_of HT_.out (by kernel_rfl)) (fun _ _ _ h => h) (Or.inl ⟨by rfl, ?_⟩) ?_ ?_
                          rotate_left
                          · intro w'
                            go_simp
                            with_reducible rfl
                          rotate_left
                          · simp only [Act.put, List.setIfInBounds_toArray, List.set_cons_zero, List.set_cons_succ, i64_w, i32_w]
                            rfl
                          refine pure_ (i := 11) (N := some 44) (v := ?_) (a' := ?_) #[true, true, true, true, true, true, true, true, true, true, true, true, false] rfl rfl (any_of HT_.out (by kernel_rfl)) (fun _ _ _ h => h) (Or.inl ⟨by rfl, ?_⟩) ?_ ?_
                          rotate_left
                          · intro w'
                            go_simp
                            with_reducible rfl
                          rotate_left
                          · simp only [Act.put, List.setIfInBounds_toArray, List.set_cons_zero, List.set_cons_succ, i64_w, i32_w]
                            rfl
                          refine pure_ (i := 12) (N := some 9) (v := ?_) (a' := ?_) #[true, true, true, true, true, true, true, true, true, true, true, true, true] rfl rfl (any_of HT_.out (by kernel_rfl)) (fun _ _ _ h => h) (Or.inl ⟨by rfl, ?_⟩) ?_ ?_
                          rotate_left
                          · intro w'
                            go_simp
                            with_reducible rfl
                          rotate_left
                          · simp only [Act.put, List.setIfInBounds_toArray, List.set_cons_zero, List.set_cons_succ, i64_w, i32_w]
                            rfl
                          refine done_ (done_of HT_.out (by kernel_rfl)) ?_
                          try go_wp2
                          have n0_ := Aside0.mk (Kd.R_drew HO106.out)
                          have n1_ := Aside0.mk (below_drew1 HB.out)
                          clear HO106
                          clear HB
                          have HO106 := n0_
                          have HB := n1_
                          clear n0_ n1_
                          have p27 : 0 ≤ ((ji17) : Int) := of_decide_eq_true (by first | (with_reducible assumption) | assumption)
                          have q27 : (ji17) < (a0.size : Int) := of_decide_eq_true (by first | (with_reducible assumption) | assumption)
                          have hx27 := bt_at a0 (ji17)
                          replace p27 := eq_true p27
                          replace q27 := eq_true q27
                          refine start_ (n := 9) (S := fun w' => True) (ds := []) #[false, false, false, false, false, false, false, false, false] (by kernel_rfl) rfl rfl trivial (fun hHeld => ?_); refine with_tabW lombardlaw05_IsinSlips.tab8 lombardlaw05_IsinSlips.bits8 (fun HT_ HW_ => ?_)
                          generalize w37.drew = w40 at HO106 HB hHeld ⊢
                          refine pure_ (i := 0) (N := some 45) (v := ?_) (a' := ?_) #[true, false, false, false, false, false, false, false, false] rfl rfl (any_of HT_.out (by kernel_rfl)) (fun _ _ _ h => h) (Or.inl ⟨by rfl, ?_⟩) ?_ ?_
                          rotate_left
                          · intro w'
                            go_simp
                            with_reducible rfl
                          rotate_left
                          · simp only [Act.put, List.setIfInBounds_toArray, List.set_cons_zero, List.set_cons_succ, i64_w, i32_w]
                            rfl
                          refine pure_ (i := 3) (N := some 48) (v := ?_) (a' := ?_) #[true, false, false, true, false, false, false, false, false] rfl rfl (any_of HT_.out (by kernel_rfl)) (fun _ _ _ h => h) (Or.inl ⟨by rfl, ?_⟩) ?_ ?_
                          rotate_left
                          · intro w'
                            go_simp
                            with_reducible rfl
                          rotate_left
                          · simp only [Act.put, List.setIfInBounds_toArray, List.set_cons_zero, List.set_cons_succ, i64_w, i32_w]
                            rfl
                          refine pure_ (i := 4) (N := some 49) (v := ?_) (a' := ?_) #[true, false, false, true, true, false, false, false, false] rfl rfl (any_of HT_.out (by kernel_rfl)) (fun _ _ _ h => h) (Or.inl ⟨by rfl, ?_⟩) ?_ ?_
                          rotate_left
                          · intro w'
                            go_simp
                            with_reducible rfl
                          rotate_left
                          · simp only [Act.put, List.setIfInBounds_toArray, List.set_cons_zero, List.set_cons_succ, i64_w, i32_w]
                            rfl
                          refine pure_ (i := 5) (N := some 50) (v := ?_) (a' := ?_) #[true, false, false, true, true, true, false, false, false] rfl rfl (any_of HT_.out (by kernel_rfl)) (fun _ _ _ h => h) (Or.inl ⟨by rfl, ?_⟩) ?_ ?_
                          rotate_left
                          · intro w'
                            go_simp
                            with_reducible rfl
                          rotate_left
                          · simp only [Act.put, List.setIfInBounds_toArray, List.set_cons_zero, List.set_cons_succ, i64_w, i32_w]
                            rfl
                          refine take_ (i := 6) (N := some 51) (v := ?_) (a' := ?_) #[true, false, false, true, true, true, true, false, false] rfl rfl (take_ofW HT_.out HW_.out (by kernel_rfl)) (fun _ _ _ h => h) (Or.inl ⟨by rfl, ?_⟩) hHeld ?_ ?_
                          rotate_left
                          · intro w' _
                            go_simp
                            with_reducible rfl
                          rotate_left
                          · simp only [Act.put, List.setIfInBounds_toArray, List.set_cons_zero, List.set_cons_succ, i64_w, i32_w]
                            rfl
                          refine pure_ (i := 7) (N := some 52) (v := ?_) (a' := ?_) #[true, false, false, true, true, true, true, true, false] rfl rfl (any_of HT_.out (by kernel_rfl)) (fun _ _ _ h => h) (Or.inl ⟨by rfl, ?_⟩) ?_ ?_
                          rotate_left
                          · intro w'
                            go_simp
                            with_reducible rfl
                          rotate_left
                          · simp only [Act.put, List.setIfInBounds_toArray, List.set_cons_zero, List.set_cons_succ, i64_w, i32_w]
                            rfl
                          refine one_ (i := 1) (N := some 46) #[true, true, false, true, true, true, true, true, false] rfl rfl (one_of HT_.out (by kernel_rfl)) (by decide) (fun K hK => ?_)
                          refine goes_ Try.func10 (by kernel_rfl) rfl #[.string (((a0.extract 0 ((ji17) : Int).toNat) ++ (strOfNums y104)) ++ (a0.extract ((ji21) : Int).toNat a0.size))] (by rfl) rfl rfl (by (try simp only [List.map_toArray, List.map_cons, List.map_nil]); first | done | (simp only [hji17, hji21]; rfl) | rfl | (simp only [List.length_drop, List.length_take]; rfl)) ?_
                          with_reducible refine (I.isin_Check.calls kj5 (((a0.extract 0 ((ji17) : Int).toNat) ++ (strOfNums y104)) ++ (a0.extract ((ji21) : Int).toNat a0.size)) t107 _ A25.out).mono ?_
                          rintro e w41 ⟨rfl, hb⟩
                          refine ⟨_, rfl, ?_⟩
                          have n0_ := Aside0.mk (Kd.R_below (by (with_reducible repeat (first | apply Kd.R_alloc | apply Kd.R_drewN | apply Kd.R_drew)); exact HO106.out) hb)
                          have n1_ := Aside0.mk (below_step (by repeat (first | (with_reducible first | exact HB.out | apply below_alloc | apply pw_below_drewN | apply below_drew1) | exact HB.out)) hb)
                          clear HO106
                          clear HB
                          have HO106 := n0_
                          have HB := n1_
                          clear n0_ n1_
                          (try clear hb)
                          (try clear hb2)
                          (try clear hk)
                          (try clear hi)
                          refine hK.out _ _ trivial (fun hHeld => ?_)
                          clear hK K
                          refine norm_ (a' := ?_) ?_ ?_
                          rotate_left
                          · show Act.put _ (some 46) _ = _
                            simp only [Act.put, List.setIfInBounds_toArray, List.set_cons_zero, List.set_cons_succ, i64_w, i32_w]
                            rfl
                          refine pure_ (i := 2) (N := some 47) (v := ?_) (a' := ?_) #[true, true, true, true, true, true, true, true, false] rfl rfl (any_of HT_.out (by kernel_rfl)) (fun _ _ _ h => h) (Or.inl ⟨by rfl, ?_⟩) ?_ ?_
                          rotate_left
                          · intro w'
                            go_simp
                            with_reducible rfl
                          rotate_left
                          · simp only [Act.put, List.setIfInBounds_toArray, List.set_cons_zero, List.set_cons_succ, i64_w, i32_w]
                            rfl
                          refine pure_ (i := 8) (N := some 53) (v := ?_) (a' := ?_) #[true, true, true, true, true, true, true, true, true] rfl rfl (any_of HT_.out (by kernel_rfl)) (fun _ _ _ h => h) (Or.inl ⟨by rfl, ?_⟩) ?_ ?_
                          rotate_left
                          · intro w'
                            go_simp
                            with_reducible rfl
                          rotate_left
                          · simp only [Act.put, List.setIfInBounds_toArray, List.set_cons_zero, List.set_cons_succ, i64_w, i32_w]
                            rfl
                          refine done_ (done_of HT_.out (by kernel_rfl)) ?_
                          go_upto_region 10 with (fail)
                          go_cut [69] (fun v69 wc => ∃ (kq : Nat) (x69_34 : Bool), v69 = .bool x69_34 ∧ Aside0 (lombardlaw05_IsinSlips.j1 kq a0 (ji17) x69_34 = some r) ∧ Aside0 (kq ≤ kj5) ∧ Aside0 (Below w.heap.size w wc))
                          case first =>
                            have H := HC35.out
                            clear HC35
                            by_cases c42 : (ji17) = 11
                            · rw [if_pos c42] at H
                              have c42b0 : ((ji17) == 11) = true := beq_iff_eq.mpr c42
                              have c42b1 : ((ji17) != 11) = false := bne_eq_false_iff_eq.mpr c42
                              clear c42
                              (first | rw [c42b0] | (simp only [i64_w, i32_w]; rw [c42b0]) | skip)
                              have H' := Aside0.mk H
                              clear H
                              go_wp2
                              go_meet
                              case rel => exact ⟨_, (true), (by first | rfl | (simp; done) | (simp [*]; done)), H', ⟨by have := HJ5.out; first | omega | exact Nat.le_refl _⟩, ⟨by repeat (first | (with_reducible first | exact HB.out | apply below_alloc | apply pw_below_drewN | apply below_drew1) | exact HB.out)⟩⟩
                            · rw [if_neg c42] at H
                              have c42b0 : ((ji17) == 11) = false := beq_eq_false_iff_ne.mpr c42
                              have c42b1 : ((ji17) != 11) = true := bne_iff_ne.mpr c42
                              (first | rw [c42b0] | (simp only [i64_w, i32_w]; rw [c42b0]) | skip)
                              by_cases c43 : (ji21) < (a0.size : Int)
                              · rw [if_pos c43] at H
                                have c43b0 : decide ((ji21) < (a0.size : Int)) = true := decide_eq_true c43
                                clear c43
                                by_cases c45 : (bt a0 (ji21)) < 48
                                · rw [if_pos c45] at H
                                  have c45b0 : decide ((bt a0 (ji21)) < 48) = true := decide_eq_true c45
                                  clear c45
                                  have H' := Aside0.mk H
                                  clear H
                                  have p44 : 0 ≤ ((ji21) : Int) := of_decide_eq_true (by first | (with_reducible assumption) | assumption)
                                  have q44 : (ji21) < (a0.size : Int) := of_decide_eq_true (by first | (with_reducible assumption) | assumption)
                                  have hx44 := bt_at a0 (ji21)
                                  replace p44 := eq_true p44
                                  replace q44 := eq_true q44
                                  go_wp2
                                  go_meet
                                  case rel => exact ⟨_, (true), (by first | rfl | (simp; done) | (simp [*]; done)), H', ⟨by have := HJ5.out; first | omega | exact Nat.le_refl _⟩, ⟨by repeat (first | (with_reducible first | exact HB.out | apply below_alloc | apply pw_below_drewN | apply below_drew1) | exact HB.out)⟩⟩
                                · rw [if_neg c45] at H
                                  have c45b0 : decide ((bt a0 (ji21)) < 48) = false := decide_eq_false c45
                                  clear c45
                                  have H' := Aside0.mk H
                                  clear H
                                  have p44 : 0 ≤ ((ji21) : Int) := of_decide_eq_true (by first | (with_reducible assumption) | assumption)
                                  have q44 : (ji21) < (a0.size : Int) := of_decide_eq_true (by first | (with_reducible assumption) | assumption)
                                  have hx44 := bt_at a0 (ji21)
                                  replace p44 := eq_true p44
                                  replace q44 := eq_true q44
                                  have p46 : 0 ≤ ((ji21) : Int) := of_decide_eq_true (by first | (with_reducible assumption) | assumption)
                                  have q46 : (ji21) < (a0.size : Int) := of_decide_eq_true (by first | (with_reducible assumption) | assumption)
                                  have hx46 := bt_at a0 (ji21)
                                  replace p46 := eq_true p46
                                  replace q46 := eq_true q46
                                  go_wp2
                                  go_meet
                                  case rel => exact ⟨_, (decide ((bt a0 (ji21)) > 57)), (by first | rfl | (simp; done) | (simp only [← hji21] <;> (first | rfl | simp)) | (simp [*]; done)), H', ⟨by have := HJ5.out; first | omega | exact Nat.le_refl _⟩, ⟨by repeat (first | (with_reducible first | exact HB.out | apply below_alloc | apply pw_below_drewN | apply below_drew1) | exact HB.out)⟩⟩
                              · rw [if_neg c43] at H
                                exact absurd H (by simp)
                          case rest =>
                            clear HC35
                            try clear c1
                            try clear c2
                            try clear p2
                            try clear q2
                            try clear hx2
                            try clear hcv3
                            try clear c4
                            try clear p4
                            try clear q4
                            try clear hx4
                            try clear p6
                            try clear c10
                            try clear c18
                            try clear c18b0
                            try clear c18b1
                            try clear c19
                            try clear c19b0
                            try clear c19b1
                            try clear c20
                            try clear c20b0
                            try clear c20b1
                            try clear c20b2
                            try clear c22
                            try clear c22b0
                            try clear c22b1
                            try clear c23
                            try clear c23b0
                            try clear c23b1
                            try clear c24
                            try clear c24b0
                            try clear c24b1
                            try clear c24b2
                            try clear c26
                            try clear c26b0
                            try clear p27
                            try clear q27
                            try clear hx27
                            try clear c28
                            try clear c28b0
                            try clear c28b1
                            try clear c28b2
                            try clear hcv32
                            try clear hcv39
                            try clear c42
                            try clear c42b0
                            try clear c42b1
                            try clear c43
                            try clear c43b0
                            try clear p44
                            try clear q44
                            try clear hx44
                            try clear c45
                            try clear c45b0
                            try clear p46
                            try clear q46
                            try clear hx46
                            try clear p27
                            try clear p44
                            try clear p46
                            try clear q27
                            try clear q44
                            try clear q46
                            obtain ⟨kq, x69_34, rfl, HA, HJ34, HB⟩ := hcut
                            cases kq with
                            | zero => exact absurd HA.out (by simp [lombardlaw05_IsinSlips.j1])
                            | succ kj34 =>
                              have H := HA.out
                              clear HA
                              simp only [lombardlaw05_IsinSlips.j1] at H
                              by_cases c47 : x69_34 = true
                              · subst c47
                                have H1 : ((I.lombardlaw05_awake.f kj34).bind fun t108 => (some t108)) = some r := by rw [if_pos rfl] at H; exact H
                                clear H
                                have H := H1
                                clear H1
                                replace H := Option.bind_eq_some_iff.mp H
                                obtain ⟨t108, A480, H⟩ := H
                                replace H : (some t108) = some r := H
                                have A48 := Aside0.mk A480
                                clear A480
                                obtain rfl := Option.some.inj H
                                go_wp2_with (first | ((with_reducible refine gate_callee (f := 12) rfl ?_); refine goesL_ (some 70) rfl rfl Try.func12 (by kernel_rfl) rfl #[] rfl (by (try simp only [List.map_toArray, List.map_cons, List.map_nil]); first | done | rfl | (simp only [List.length_drop, List.length_take]; rfl)) ?_; (with_reducible refine (I.lombardlaw05_awake.calls kj34  t108 _ A48.out).mono ?_); rintro e w49 ⟨rfl, hb⟩; refine ⟨_, rfl, ?_⟩; have n0_ := Aside0.mk (below_step (by repeat (first | (with_reducible first | exact HB.out | apply below_alloc | apply pw_below_drewN | apply below_drew1) | exact HB.out)) hb); clear HB; have HB := n0_; clear n0_; (try clear hb); (try clear hb2); (try clear hk); (try clear hi)))
                                go_ret
                                exact ⟨by first | rfl | (simp [errW_none, errW_some] <;> rfl) | (simp only [← hji17, ← hji21]; first | rfl | (simp [errW_none, errW_some] <;> rfl)) | (simp [*, errW_none, errW_some] <;> rfl), by repeat (first | (with_reducible first | exact HB.out | apply below_alloc | apply pw_below_drewN | apply below_drew1) | exact HB.out)⟩
                              · replace c47 := Bool.eq_false_iff.mpr c47
                                subst c47
                                have H1 : (if 0 ≤ (ji17) then (if (ji17) ≤ (a0.size : Int) then (if 0 ≤ (wrap64 ((ji17) + 1)) then (if (wrap64 ((ji17) + 1)) < (a0.size : Int) then (if (ji17) < (a0.size : Int) then ((some (([bt a0 (wrap64 ((ji17) + 1)), bt a0 (ji17)] : List Int) : List Int)).bind fun y109 => (if (a0.extract 0 ((ji17) : Int).toNat).size + (strOfNums y109).size ≤ 9223372036854775807 then (if 0 ≤ (wrap64 ((ji17) + 2)) then (if (wrap64 ((ji17) + 2)) ≤ (a0.size : Int) then (if ((a0.extract 0 ((ji17) : Int).toNat) ++ (strOfNums y109)).size + (a0.extract ((wrap64 ((ji17) + 2)) : Int).toNat a0.size).size ≤ 9223372036854775807 then (if (bt a0 (ji17)) = 48 then (if (bt a0 (wrap64 ((ji17) + 1))) = 57 then (lombardlaw05_IsinSlips.j2 kj34 a0 (ji17) (((a0.extract 0 ((ji17) : Int).toNat) ++ (strOfNums y109)) ++ (a0.extract ((wrap64 ((ji17) + 2)) : Int).toNat a0.size)) true) else (if (bt a0 (ji17)) = 57 then (lombardlaw05_IsinSlips.j2 kj34 a0 (ji17) (((a0.extract 0 ((ji17) : Int).toNat) ++ (strOfNums y109)) ++ (a0.extract ((wrap64 ((ji17) + 2)) : Int).toNat a0.size)) ((bt a0 (wrap64 ((ji17) + 1))) == 48)) else (lombardlaw05_IsinSlips.j2 kj34 a0 (ji17) (((a0.extract 0 ((ji17) : Int).toNat) ++ (strOfNums y109)) ++ (a0.extract ((wrap64 ((ji17) + 2)) : Int).toNat a0.size)) false))) else (if (bt a0 (ji17)) = 57 then (lombardlaw05_IsinSlips.j2 kj34 a0 (ji17) (((a0.extract 0 ((ji17) : Int).toNat) ++ (strOfNums y109)) ++ (a0.extract ((wrap64 ((ji17) + 2)) : Int).toNat a0.size)) ((bt a0 (wrap64 ((ji17) + 1))) == 48)) else (lombardlaw05_IsinSlips.j2 kj34 a0 (ji17) (((a0.extract 0 ((ji17) : Int).toNat) ++ (strOfNums y109)) ++ (a0.extract ((wrap64 ((ji17) + 2)) : Int).toNat a0.size)) false))) else (none)) else (none)) else (none)) else (none))) else (none)) else (none)) else (none)) else (none)) else (none)) = some r := by rw [if_neg (show ¬ (false = true) by decide)] at H; exact H
                                clear H
                                have H := H1
                                clear H1
                                by_cases c50 : 0 ≤ (ji17)
                                · rw [if_pos c50] at H
                                  have c50b0 := eq_true c50
                                  have c50b1 : decide (0 ≤ (ji17)) = true := decide_eq_true c50
                                  clear c50
                                  by_cases c51 : (ji17) ≤ (a0.size : Int)
                                  · rw [if_pos c51] at H
                                    have c51b0 := eq_true c51
                                    have c51b1 : decide ((ji17) ≤ (a0.size : Int)) = true := decide_eq_true c51
                                    clear c51
                                    obtain ⟨ji52, hji52⟩ : ∃ j_ : Int, (wrap64 ((ji17) + 1)) = j_ := ⟨_, rfl⟩
                                    replace H : (if 0 ≤ (ji52) then (if (ji52) < (a0.size : Int) then (if (ji17) < (a0.size : Int) then ((some (([bt a0 (ji52), bt a0 (ji17)] : List Int) : List Int)).bind fun y109 => (if (a0.extract 0 ((ji17) : Int).toNat).size + (strOfNums y109).size ≤ 9223372036854775807 then (if 0 ≤ (wrap64 ((ji17) + 2)) then (if (wrap64 ((ji17) + 2)) ≤ (a0.size : Int) then (if ((a0.extract 0 ((ji17) : Int).toNat) ++ (strOfNums y109)).size + (a0.extract ((wrap64 ((ji17) + 2)) : Int).toNat a0.size).size ≤ 9223372036854775807 then (if (bt a0 (ji17)) = 48 then (if (bt a0 (ji52)) = 57 then (lombardlaw05_IsinSlips.j2 kj34 a0 (ji17) (((a0.extract 0 ((ji17) : Int).toNat) ++ (strOfNums y109)) ++ (a0.extract ((wrap64 ((ji17) + 2)) : Int).toNat a0.size)) true) else (if (bt a0 (ji17)) = 57 then (lombardlaw05_IsinSlips.j2 kj34 a0 (ji17) (((a0.extract 0 ((ji17) : Int).toNat) ++ (strOfNums y109)) ++ (a0.extract ((wrap64 ((ji17) + 2)) : Int).toNat a0.size)) ((bt a0 (ji52)) == 48)) else (lombardlaw05_IsinSlips.j2 kj34 a0 (ji17) (((a0.extract 0 ((ji17) : Int).toNat) ++ (strOfNums y109)) ++ (a0.extract ((wrap64 ((ji17) + 2)) : Int).toNat a0.size)) false))) else (if (bt a0 (ji17)) = 57 then (lombardlaw05_IsinSlips.j2 kj34 a0 (ji17) (((a0.extract 0 ((ji17) : Int).toNat) ++ (strOfNums y109)) ++ (a0.extract ((wrap64 ((ji17) + 2)) : Int).toNat a0.size)) ((bt a0 (ji52)) == 48)) else (lombardlaw05_IsinSlips.j2 kj34 a0 (ji17) (((a0.extract 0 ((ji17) : Int).toNat) ++ (strOfNums y109)) ++ (a0.extract ((wrap64 ((ji17) + 2)) : Int).toNat a0.size)) false))) else (none)) else (none)) else (none)) else (none))) else (none)) else (none)) else (none)) = some r := by first | (rw [hji52] at H; exact H) | (simp only [hji52] at H ⊢; exact H)
                                    have hji52w : (IntKind.i64.wrap ((ji17) + 1)) = ji52 := (i64_w _).trans hji52
                                    have e5221 : ji52 = ji21 := hji52.symm.trans hji21
                                    subst e5221
                                    by_cases c53 : 0 ≤ (ji52)
                                    · rw [if_pos c53] at H
                                      have c53b0 : decide (0 ≤ (ji52)) = true := decide_eq_true c53
                                      clear c53
                                      by_cases c54 : (ji52) < (a0.size : Int)
                                      · rw [if_pos c54] at H
                                        have c54b0 : decide ((ji52) < (a0.size : Int)) = true := decide_eq_true c54
                                        clear c54
                                        by_cases c56 : (ji17) < (a0.size : Int)
                                        · rw [if_pos c56] at H
                                          have c56b0 : decide ((ji17) < (a0.size : Int)) = true := decide_eq_true c56
                                          clear c56
                                          obtain ⟨y109, hy109⟩ : ∃ y_ : List Int, y_ = (([bt a0 (ji52), bt a0 (ji17)] : List Int)) := ⟨_, rfl⟩
                                          replace H : (if (a0.extract 0 ((ji17) : Int).toNat).size + (strOfNums y109).size ≤ 9223372036854775807 then (if 0 ≤ (wrap64 ((ji17) + 2)) then (if (wrap64 ((ji17) + 2)) ≤ (a0.size : Int) then (if ((a0.extract 0 ((ji17) : Int).toNat) ++ (strOfNums y109)).size + (a0.extract ((wrap64 ((ji17) + 2)) : Int).toNat a0.size).size ≤ 9223372036854775807 then (if (bt a0 (ji17)) = 48 then (if (bt a0 (ji52)) = 57 then (lombardlaw05_IsinSlips.j2 kj34 a0 (ji17) (((a0.extract 0 ((ji17) : Int).toNat) ++ (strOfNums y109)) ++ (a0.extract ((wrap64 ((ji17) + 2)) : Int).toNat a0.size)) true) else (if (bt a0 (ji17)) = 57 then (lombardlaw05_IsinSlips.j2 kj34 a0 (ji17) (((a0.extract 0 ((ji17) : Int).toNat) ++ (strOfNums y109)) ++ (a0.extract ((wrap64 ((ji17) + 2)) : Int).toNat a0.size)) ((bt a0 (ji52)) == 48)) else (lombardlaw05_IsinSlips.j2 kj34 a0 (ji17) (((a0.extract 0 ((ji17) : Int).toNat) ++ (strOfNums y109)) ++ (a0.extract ((wrap64 ((ji17) + 2)) : Int).toNat a0.size)) false))) else (if (bt a0 (ji17)) = 57 then (lombardlaw05_IsinSlips.j2 kj34 a0 (ji17) (((a0.extract 0 ((ji17) : Int).toNat) ++ (strOfNums y109)) ++ (a0.extract ((wrap64 ((ji17) + 2)) : Int).toNat a0.size)) ((bt a0 (ji52)) == 48)) else (lombardlaw05_IsinSlips.j2 kj34 a0 (ji17) (((a0.extract 0 ((ji17) : Int).toNat) ++ (strOfNums y109)) ++ (a0.extract ((wrap64 ((ji17) + 2)) : Int).toNat a0.size)) false))) else (none)) else (none)) else (none)) else (none)) = some r := by first | (rw [hy109]; with_reducible exact H) | (have H2_ := (Option.bind_some _ _).symm.trans H; rw [hy109]; with_reducible exact H2_) | (have H2_ := (Option.bind_some _ _).symm.trans H; with_reducible exact H2_) | with_reducible exact H | (rw [hy109]; exact H) | exact H
                                          have Ny109 := Aside0.mk hy109
                                          clear hy109
                                          by_cases c58 : (a0.extract 0 ((ji17) : Int).toNat).size + (strOfNums y109).size ≤ 9223372036854775807
                                          · rw [if_pos c58] at H
                                            have c58b0 := eq_true c58
                                            have c58b1 : decide ((a0.extract 0 ((ji17) : Int).toNat).size + (strOfNums y109).size ≤ 9223372036854775807) = true := decide_eq_true c58
                                            try have c58b2 : (9223372036854775807 < (a0.extract 0 ((ji17) : Int).toNat).size + (strOfNums y109).size) = False := eq_false (Nat.not_lt.2 c58)
                                            try (have c58b3 := Nat.not_lt.2 c58; simp [-Nat.not_lt, Go.ByteArray.size_mk'] at c58b3)
                                            have c58m := Nat.min_eq_left (Int.toNat_le.2 (of_decide_eq_true (by first | exact c19b1 | exact c51b1)))
                                            try (have c58b4 := Nat.not_lt.2 c58; simp [-Nat.not_lt, Go.ByteArray.size_mk', c58m] at c58b4)
                                            clear c58m
                                            obtain ⟨ji59, hji59⟩ : ∃ j_ : Int, (wrap64 ((ji17) + 2)) = j_ := ⟨_, rfl⟩
                                            replace H : (if 0 ≤ (ji59) then (if (ji59) ≤ (a0.size : Int) then (if ((a0.extract 0 ((ji17) : Int).toNat) ++ (strOfNums y109)).size + (a0.extract ((ji59) : Int).toNat a0.size).size ≤ 9223372036854775807 then (if (bt a0 (ji17)) = 48 then (if (bt a0 (ji52)) = 57 then (lombardlaw05_IsinSlips.j2 kj34 a0 (ji17) (((a0.extract 0 ((ji17) : Int).toNat) ++ (strOfNums y109)) ++ (a0.extract ((ji59) : Int).toNat a0.size)) true) else (if (bt a0 (ji17)) = 57 then (lombardlaw05_IsinSlips.j2 kj34 a0 (ji17) (((a0.extract 0 ((ji17) : Int).toNat) ++ (strOfNums y109)) ++ (a0.extract ((ji59) : Int).toNat a0.size)) ((bt a0 (ji52)) == 48)) else (lombardlaw05_IsinSlips.j2 kj34 a0 (ji17) (((a0.extract 0 ((ji17) : Int).toNat) ++ (strOfNums y109)) ++ (a0.extract ((ji59) : Int).toNat a0.size)) false))) else (if (bt a0 (ji17)) = 57 then (lombardlaw05_IsinSlips.j2 kj34 a0 (ji17) (((a0.extract 0 ((ji17) : Int).toNat) ++ (strOfNums y109)) ++ (a0.extract ((ji59) : Int).toNat a0.size)) ((bt a0 (ji52)) == 48)) else (lombardlaw05_IsinSlips.j2 kj34 a0 (ji17) (((a0.extract 0 ((ji17) : Int).toNat) ++ (strOfNums y109)) ++ (a0.extract ((ji59) : Int).toNat a0.size)) false))) else (none)) else (none)) else (none)) = some r := by first | (rw [hji59] at H; exact H) | (simp only [hji59] at H ⊢; exact H)
                                            have hji59w : (IntKind.i64.wrap ((ji17) + 2)) = ji59 := (i64_w _).trans hji59
                                            by_cases c60 : 0 ≤ (ji59)
                                            · rw [if_pos c60] at H
                                              have c60b0 := eq_true c60
                                              have c60b1 : decide (0 ≤ (ji59)) = true := decide_eq_true c60
                                              clear c60
                                              by_cases c61 : (ji59) ≤ (a0.size : Int)
                                              · rw [if_pos c61] at H
                                                have c61b0 := eq_true c61
                                                have c61b1 : decide ((ji59) ≤ (a0.size : Int)) = true := decide_eq_true c61
                                                clear c61
                                                by_cases c62 : ((a0.extract 0 ((ji17) : Int).toNat) ++ (strOfNums y109)).size + (a0.extract ((ji59) : Int).toNat a0.size).size ≤ 9223372036854775807
                                                · rw [if_pos c62] at H
                                                  have c62b0 := eq_true c62
                                                  have c62b1 : decide (((a0.extract 0 ((ji17) : Int).toNat) ++ (strOfNums y109)).size + (a0.extract ((ji59) : Int).toNat a0.size).size ≤ 9223372036854775807) = true := decide_eq_true c62
                                                  try have c62b2 : (9223372036854775807 < ((a0.extract 0 ((ji17) : Int).toNat) ++ (strOfNums y109)).size + (a0.extract ((ji59) : Int).toNat a0.size).size) = False := eq_false (Nat.not_lt.2 c62)
                                                  try (have c62b3 := Nat.not_lt.2 c62; simp [-Nat.not_lt, Go.ByteArray.size_mk'] at c62b3)
                                                  have c62m := Nat.min_eq_left (Int.toNat_le.2 (of_decide_eq_true (by first | exact c19b1 | exact c51b1)))
                                                  try (have c62b4 := Nat.not_lt.2 c62; simp [-Nat.not_lt, Go.ByteArray.size_mk', c62m] at c62b4)
                                                  clear c62m
                                                  have HC63 := Aside0.mk H
                                                  clear H
                                                  try go_wp2
                                                  have n0_ := Aside0.mk (below_drew1 HB.out)
                                                  clear HB
                                                  have HB := n0_
                                                  clear n0_
                                                  have p55 : 0 ≤ ((ji52) : Int) := of_decide_eq_true (by first | (with_reducible assumption) | assumption)
                                                  have q55 : (ji52) < (a0.size : Int) := of_decide_eq_true (by first | (with_reducible assumption) | assumption)
                                                  have hx55 := bt_at a0 (ji52)
                                                  replace p55 := eq_true p55
                                                  replace q55 := eq_true q55
                                                  have p57 : 0 ≤ ((ji17) : Int) := of_decide_eq_true (by first | (with_reducible assumption) | assumption)
                                                  have q57 : (ji17) < (a0.size : Int) := of_decide_eq_true (by first | (with_reducible assumption) | assumption)
                                                  have hx57 := bt_at a0 (ji17)
                                                  replace p57 := eq_true p57
                                                  replace q57 := eq_true q57
                                                  refine start_ (n := 19) (S := fun w' => True) (ds := []) #[false, false, false, false, false, false, false, false, false, false, false, false, false, false, false, false, false, false, false] (by kernel_rfl) rfl rfl trivial (fun hHeld => ?_); refine with_tabW lombardlaw05_IsinSlips.tab12 lombardlaw05_IsinSlips.bits12 (fun HT_ HW_ => ?_)
                                                  generalize wc.drew = w64 at HB hHeld ⊢
                                                  refine pure_ (i := 0) (N := some 71) (v := ?_) (a' := ?_) #[true, false, false, false, false, false, false, false, false, false, false, false, false, false, false, false, false, false, false] rfl rfl (any_of HT_.out (by kernel_rfl)) (fun _ _ _ h => h) (Or.inl ⟨by rfl, ?_⟩) ?_ ?_
                                                  rotate_left
                                                  · intro w'
                                                    go_simp
                                                    with_reducible rfl
                                                  rotate_left
                                                  · simp only [Act.put, List.setIfInBounds_toArray, List.set_cons_zero, List.set_cons_succ, i64_w, i32_w]
                                                    rfl
                                                  refine pure_ (i := 1) (N := some 72) (v := ?_) (a' := ?_) #[true, true, false, false, false, false, false, false, false, false, false, false, false, false, false, false, false, false, false] rfl rfl (any_of HT_.out (by kernel_rfl)) (fun _ _ _ h => h) (Or.inl ⟨by rfl, ?_⟩) ?_ ?_
                                                  rotate_left
                                                  · intro w'
                                                    go_simp
                                                    with_reducible rfl
                                                  rotate_left
                                                  · simp only [Act.put, List.setIfInBounds_toArray, List.set_cons_zero, List.set_cons_succ, i64_w, i32_w]
                                                    rfl
                                                  refine pure_ (i := 2) (N := some 73) (v := ?_) (a' := ?_) #[true, true, true, false, false, false, false, false, false, false, false, false, false, false, false, false, false, false, false] rfl rfl (any_of HT_.out (by kernel_rfl)) (fun _ _ _ h => h) (Or.inl ⟨by rfl, ?_⟩) ?_ ?_
                                                  rotate_left
                                                  · intro w'
                                                    go_simp
                                                    with_reducible rfl
                                                  rotate_left
                                                  · simp only [Act.put, List.setIfInBounds_toArray, List.set_cons_zero, List.set_cons_succ, i64_w, i32_w]
                                                    rfl
                                                  refine pure_ (i := 3) (N := some 74) (v := ?_) (a' := ?_) #[true, true, true, true, false, false, false, false, false, false, false, false, false, false, false, false, false, false, false] rfl rfl (any_of HT_.out (by kernel_rfl)) (fun _ _ _ h => h) (Or.inl ⟨by rfl, ?_⟩) ?_ ?_
                                                  rotate_left
                                                  · intro w'
                                                    go_simp
                                                    with_reducible rfl
                                                  rotate_left
                                                  · simp only [Act.put, List.setIfInBounds_toArray, List.set_cons_zero, List.set_cons_succ, i64_w, i32_w]
                                                    rfl
                                                  refine pure_ (i := 4) (N := some 75) (v := ?_) (a' := ?_) #[true, true, true, true, true, false, false, false, false, false, false, false, false, false, false, false, false, false, false] rfl rfl (any_of HT_.out (by kernel_rfl)) (fun _ _ _ h => h) (Or.inl ⟨by rfl, ?_⟩) ?_ ?_
                                                  rotate_left
                                                  · intro w'
                                                    go_simp
                                                    with_reducible rfl
                                                  rotate_left
                                                  · simp only [Act.put, List.setIfInBounds_toArray, List.set_cons_zero, List.set_cons_succ, i64_w, i32_w]
                                                    rfl
                                                  refine pure_ (i := 5) (N := some 76) (v := ?_) (a' := ?_) #[true, true, true, true, true, true, false, false, false, false, false, false, false, false, false, false, false, false, false] rfl rfl (any_of HT_.out (by kernel_rfl)) (fun _ _ _ h => h) (Or.inl ⟨by rfl, ?_⟩) ?_ ?_
                                                  rotate_left
                                                  · intro w'
                                                    go_simp
                                                    with_reducible rfl
                                                  rotate_left
                                                  · simp only [Act.put, List.setIfInBounds_toArray, List.set_cons_zero, List.set_cons_succ, i64_w, i32_w]
                                                    rfl
                                                  refine pure_ (i := 7) (N := some 78) (v := ?_) (a' := ?_) #[true, true, true, true, true, true, false, true, false, false, false, false, false, false, false, false, false, false, false] rfl rfl (any_of HT_.out (by kernel_rfl)) (fun _ _ _ h => h) (Or.inl ⟨by rfl, ?_⟩) ?_ ?_
                                                  rotate_left
                                                  · intro w'
                                                    go_simp
                                                    with_reducible rfl
                                                  rotate_left
                                                  · simp only [Act.put, List.setIfInBounds_toArray, List.set_cons_zero, List.set_cons_succ, i64_w, i32_w]
                                                    rfl
                                                  refine pure_ (i := 8) (N := some 79) (v := ?_) (a' := ?_) #[true, true, true, true, true, true, false, true, true, false, false, false, false, false, false, false, false, false, false] rfl rfl (any_of HT_.out (by kernel_rfl)) (fun _ _ _ h => h) (Or.inl ⟨by rfl, ?_⟩) ?_ ?_
                                                  rotate_left
                                                  · intro w'
                                                    go_simp
                                                    with_reducible rfl
                                                  rotate_left
                                                  · simp only [Act.put, List.setIfInBounds_toArray, List.set_cons_zero, List.set_cons_succ, i64_w, i32_w]
                                                    rfl
                                                  refine pure_ (i := 13) (N := some 84) (v := ?_) (a' := ?_) #[true, true, true, true, true, true, false, true, true, false, false, false, false, true, false, false, false, false, false] rfl rfl (any_of HT_.out (by kernel_rfl)) (fun _ _ _ h => h) (Or.inl ⟨by rfl, ?_⟩) ?_ ?_
                                                  rotate_left
                                                  · intro w'
                                                    go_simp
                                                    with_reducible rfl
                                                  rotate_left
                                                  · simp only [Act.put, List.setIfInBounds_toArray, List.set_cons_zero, List.set_cons_succ, i64_w, i32_w]
                                                    rfl
                                                  refine pure_ (i := 14) (N := some 85) (v := ?_) (a' := ?_) #[true, true, true, true, true, true, false, true, true, false, false, false, false, true, true, false, false, false, false] rfl rfl (any_of HT_.out (by kernel_rfl)) (fun _ _ _ h => h) (Or.inl ⟨by rfl, ?_⟩) ?_ ?_
                                                  rotate_left
                                                  · intro w'
                                                    go_simp
                                                    with_reducible rfl
                                                  rotate_left
                                                  · simp only [Act.put, List.setIfInBounds_toArray, List.set_cons_zero, List.set_cons_succ, i64_w, i32_w]
                                                    rfl
                                                  refine pure_ (i := 15) (N := some 86) (v := ?_) (a' := ?_) #[true, true, true, true, true, true, false, true, true, false, false, false, false, true, true, true, false, false, false] rfl rfl (any_of HT_.out (by kernel_rfl)) (fun _ _ _ h => h) (Or.inl ⟨by rfl, ?_⟩) ?_ ?_
                                                  rotate_left
                                                  · intro w'
                                                    go_simp
                                                    with_reducible rfl
                                                  rotate_left
                                                  · simp only [Act.put, List.setIfInBounds_toArray, List.set_cons_zero, List.set_cons_succ, i64_w, i32_w]
                                                    rfl
                                                  refine pure_ (i := 16) (N := some 87) (v := ?_) (a' := ?_) #[true, true, true, true, true, true, false, true, true, false, false, false, false, true, true, true, true, false, false] rfl rfl (any_of HT_.out (by kernel_rfl)) (fun _ _ _ h => h) (Or.inl ⟨by rfl, ?_⟩) ?_ ?_
                                                  rotate_left
                                                  · intro w'
                                                    go_simp
                                                    with_reducible rfl
                                                  rotate_left
                                                  · simp only [Act.put, List.setIfInBounds_toArray, List.set_cons_zero, List.set_cons_succ, i64_w, i32_w]
                                                    rfl
                                                  refine take_ (i := 6) (N := some 77) (v := ?_) (a' := ?_) #[true, true, true, true, true, true, true, true, true, false, false, false, false, true, true, true, true, false, false] rfl rfl (take_ofW HT_.out HW_.out (by kernel_rfl)) (fun _ _ _ h => h) (Or.inl ⟨by rfl, ?_⟩) hHeld ?_ ?_
                                                  rotate_left
                                                  · intro w' _
                                                    go_simp
                                                    with_reducible rfl
                                                  rotate_left
                                                  · simp only [Act.put, List.setIfInBounds_toArray, List.set_cons_zero, List.set_cons_succ, i64_w, i32_w]
                                                    rfl
                                                  refine take_ (i := 9) (N := some 80) (v := ?_) (a' := ?_) #[true, true, true, true, true, true, true, true, true, true, false, false, false, true, true, true, true, false, false] rfl rfl (take_ofW HT_.out HW_.out (by kernel_rfl)) (fun _ _ _ h => h) (Or.inl ⟨by rfl, ?_⟩) hHeld ?_ ?_
                                                  rotate_left
                                                  · intro w' _
                                                    go_simp
                                                    with_reducible rfl
                                                  rotate_left
                                                  · simp only [Act.put, List.setIfInBounds_toArray, List.set_cons_zero, List.set_cons_succ, i64_w, i32_w]
                                                    rfl
                                                  refine one_ (i := 10) (N := some 81) #[true, true, true, true, true, true, true, true, true, true, true, false, false, true, true, true, true, false, false] rfl rfl (one_of HT_.out (by kernel_rfl)) (by decide) (fun K hK => ?_)
                                                  refine Kd.R_lit_step (Kd.int .u8) _ 5 ?hg (N := 81) ?hd (xs := ([bt a0 (ji52), bt a0 (ji17)] : List Int)) (inner := [.int .u8 (bt a0 (ji52)), .int .u8 (bt a0 (ji17))]) (ok := fun _ => True) (okp := fun _ => True) ?hr ?hp (fun _ hk => hk) trivial (Below.refl _ _) (Nat.le_refl _) (by simp) ?_; (case hd => rfl); (case hg => rfl); (case hr => first | (go_simp; done) | (go_simp; rfl)); (case hp => exact (Reps.one (show Kd.M (Kd.int .u8) _ _ _ (bt a0 (ji52)) [.int .u8 (bt a0 (ji52))] from rfl) (Reps.one (show Kd.M (Kd.int .u8) _ _ _ (bt a0 (ji17)) [.int .u8 (bt a0 (ji17))] from rfl) (Reps.none _ _))))
                                                  intro v110 w65 ho66 hb hg_ hnew_
                                                  clear hg_ hnew_
                                                  (first | rw [← Ny109.out] at ho66 | (simp only [Int.reduceToNat] at ho66; rw [← Ny109.out] at ho66))
                                                  have n0_ := Aside0.mk (Kd.R_lower ho66 (below_size (by repeat (first | (with_reducible first | exact HB.out | apply below_alloc | apply pw_below_drewN | apply below_drew1) | exact HB.out))))
                                                  have n1_ := Aside0.mk (below_step (by repeat (first | (with_reducible first | exact HB.out | apply below_alloc | apply pw_below_drewN | apply below_drew1) | exact HB.out)) hb)
                                                  clear HB
                                                  have HO111 := n0_
                                                  have HB := n1_
                                                  clear n0_ n1_
                                                  clear hb ho66
                                                  refine hK.out _ _ trivial (fun hHeld => ?_)
                                                  clear hK K
                                                  refine norm_ (a' := ?_) ?_ ?_
                                                  rotate_left
                                                  · show Act.put _ (some 81) _ = _
                                                    simp only [Act.put, List.setIfInBounds_toArray, List.set_cons_zero, List.set_cons_succ, i64_w, i32_w]
                                                    rfl
                                                  refine one_ (i := 11) (N := some 82) #[true, true, true, true, true, true, true, true, true, true, true, true, false, true, true, true, true, false, false] rfl rfl (one_of HT_.out (by kernel_rfl)) (by decide) (fun K hK => ?_)
                                                  have hcv67 := own_string (P := Try.prog) Try.underlying32 Try.underlying5 Try.underlying9 (Kd.own_of_R HO111.out)
                                                  refine value_ (w1 := ?_) (v := ?_) (by rfl) rfl ?_ ?_
                                                  rotate_left 2
                                                  · go_simp
                                                    constructor
                                                    · rfl
                                                    · rfl
                                                  clear hcv67
                                                  refine hK.out _ _ trivial (fun hHeld => ?_)
                                                  clear hK K
                                                  refine norm_ (a' := ?_) ?_ ?_
                                                  rotate_left
                                                  · show Act.put _ (some 82) _ = _
                                                    simp only [Act.put, List.setIfInBounds_toArray, List.set_cons_zero, List.set_cons_succ, i64_w, i32_w]
                                                    rfl
                                                  refine pure_ (i := 12) (N := some 83) (v := ?_) (a' := ?_) #[true, true, true, true, true, true, true, true, true, true, true, true, true, true, true, true, true, false, false] rfl rfl (any_of HT_.out (by kernel_rfl)) (fun _ _ _ h => h) (Or.inl ⟨by rfl, ?_⟩) ?_ ?_
                                                  rotate_left
                                                  · intro w'
                                                    go_simp
                                                    with_reducible rfl
                                                  rotate_left
                                                  · simp only [Act.put, List.setIfInBounds_toArray, List.set_cons_zero, List.set_cons_succ, i64_w, i32_w]
                                                    rfl
                                                  refine pure_ (i := 17) (N := some 88) (v := ?_) (a' := ?_) #[true, true, true, true, true, true, true, true, true, true, true, true, true, true, true, true, true, true, false] rfl rfl (any_of HT_.out (by kernel_rfl)) (fun _ _ _ h => h) (Or.inl ⟨by rfl, ?_⟩) ?_ ?_
                                                  rotate_left
                                                  · intro w'
                                                    go_simp
                                                    with_reducible rfl
                                                  rotate_left
                                                  · simp only [Act.put, List.setIfInBounds_toArray, List.set_cons_zero, List.set_cons_succ, i64_w, i32_w]
                                                    rfl
                                                  refine pure_ (i := 18) (N := some 10) (v := ?_) (a' := ?_) #[true, true, true, true, true, true, true, true, true, true, true, true, true, true, true, true, true, true, true] rfl rfl (any_of HT_.out (by kernel_rfl)) (fun _ _ _ h => h) (Or.inl ⟨by rfl, ?_⟩) ?_ ?_
                                                  rotate_left
                                                  · intro w'
                                                    go_simp
                                                    with_reducible rfl
                                                  rotate_left
                                                  · simp only [Act.put, List.setIfInBounds_toArray, List.set_cons_zero, List.set_cons_succ, i64_w, i32_w]
                                                    rfl
                                                  refine done_ (done_of HT_.out (by kernel_rfl)) ?_
                                                  go_upto_region 13 with (fail)
                                                  go_cut [11] (fun v11 wc => ∃ (kq : Nat) (x11_62 : Bool), v11 = .bool x11_62 ∧ Aside0 (lombardlaw05_IsinSlips.j2 kq a0 (ji17) (((a0.extract 0 ((ji17) : Int).toNat) ++ (strOfNums y109)) ++ (a0.extract ((ji59) : Int).toNat a0.size)) x11_62 = some r) ∧ Aside0 (kq ≤ kj34) ∧ Aside0 (Below w.heap.size w wc))
                                                  case first =>
                                                    have H := HC63.out
                                                    clear HC63
                                                    by_cases c69 : (bt a0 (ji17)) = 48
                                                    · rw [if_pos c69] at H
                                                      have c69b0 : ((bt a0 (ji17)) == 48) = true := beq_iff_eq.mpr c69
                                                      have c69b1 : ((bt a0 (ji17)) != 48) = false := bne_eq_false_iff_eq.mpr c69
                                                      clear c69
                                                      (first | rw [c69b0] | (simp only [i64_w, i32_w]; rw [c69b0]) | skip)
                                                      by_cases c71 : (bt a0 (ji52)) = 57
                                                      · rw [if_pos c71] at H
                                                        have c71b0 : ((bt a0 (ji52)) == 57) = true := beq_iff_eq.mpr c71
                                                        have c71b1 : ((bt a0 (ji52)) != 57) = false := bne_eq_false_iff_eq.mpr c71
                                                        clear c71
                                                        have H' := Aside0.mk H
                                                        clear H
                                                        have p68 : 0 ≤ ((ji17) : Int) := of_decide_eq_true (by first | (with_reducible assumption) | assumption)
                                                        have q68 : (ji17) < (a0.size : Int) := of_decide_eq_true (by first | (with_reducible assumption) | assumption)
                                                        have hx68 := bt_at a0 (ji17)
                                                        replace p68 := eq_true p68
                                                        replace q68 := eq_true q68
                                                        have p70 : 0 ≤ ((ji52) : Int) := of_decide_eq_true (by first | (with_reducible assumption) | assumption)
                                                        have q70 : (ji52) < (a0.size : Int) := of_decide_eq_true (by first | (with_reducible assumption) | assumption)
                                                        have hx70 := bt_at a0 (ji52)
                                                        replace p70 := eq_true p70
                                                        replace q70 := eq_true q70
                                                        go_wp2
                                                        go_meet
                                                        case rel => exact ⟨_, (true), (by first | rfl | (simp; done) | (simp [*]; done)), H', ⟨by have := HJ5.out; have := HJ34.out; first | omega | exact Nat.le_refl _⟩, ⟨by repeat (first | (with_reducible first | exact HB.out | apply below_alloc | apply pw_below_drewN | apply below_drew1) | exact HB.out)⟩⟩
                                                      · rw [if_neg c71] at H
                                                        have c71b0 : ((bt a0 (ji52)) == 57) = false := beq_eq_false_iff_ne.mpr c71
                                                        have c71b1 : ((bt a0 (ji52)) != 57) = true := bne_iff_ne.mpr c71
                                                        by_cases c73 : (bt a0 (ji17)) = 57
                                                        · rw [if_pos c73] at H
                                                          have c73b0 : ((bt a0 (ji17)) == 57) = true := beq_iff_eq.mpr c73
                                                          have c73b1 : ((bt a0 (ji17)) != 57) = false := bne_eq_false_iff_eq.mpr c73
                                                          clear c73
                                                          have H' := Aside0.mk H
                                                          clear H
                                                          have p68 : 0 ≤ ((ji17) : Int) := of_decide_eq_true (by first | (with_reducible assumption) | assumption)
                                                          have q68 : (ji17) < (a0.size : Int) := of_decide_eq_true (by first | (with_reducible assumption) | assumption)
                                                          have hx68 := bt_at a0 (ji17)
                                                          replace p68 := eq_true p68
                                                          replace q68 := eq_true q68
                                                          have p70 : 0 ≤ ((ji52) : Int) := of_decide_eq_true (by first | (with_reducible assumption) | assumption)
                                                          have q70 : (ji52) < (a0.size : Int) := of_decide_eq_true (by first | (with_reducible assumption) | assumption)
                                                          have hx70 := bt_at a0 (ji52)
                                                          replace p70 := eq_true p70
                                                          replace q70 := eq_true q70
                                                          have p72 : 0 ≤ ((ji17) : Int) := of_decide_eq_true (by first | (with_reducible assumption) | assumption)
                                                          have q72 : (ji17) < (a0.size : Int) := of_decide_eq_true (by first | (with_reducible assumption) | assumption)
                                                          have hx72 := bt_at a0 (ji17)
                                                          replace p72 := eq_true p72
                                                          replace q72 := eq_true q72
                                                          have p74 : 0 ≤ ((ji52) : Int) := of_decide_eq_true (by first | (with_reducible assumption) | assumption)
                                                          have q74 : (ji52) < (a0.size : Int) := of_decide_eq_true (by first | (with_reducible assumption) | assumption)
                                                          have hx74 := bt_at a0 (ji52)
                                                          replace p74 := eq_true p74
                                                          replace q74 := eq_true q74
                                                          go_wp2
                                                          go_meet
                                                          case rel => exact ⟨_, (((bt a0 (ji52)) == 48)), (by first | rfl | (simp; done) | (simp only [← hji52] <;> (first | rfl | simp)) | (simp [*]; done)), H', ⟨by have := HJ5.out; have := HJ34.out; first | omega | exact Nat.le_refl _⟩, ⟨by repeat (first | (with_reducible first | exact HB.out | apply below_alloc | apply pw_below_drewN | apply below_drew1) | exact HB.out)⟩⟩
                                                        · rw [if_neg c73] at H
                                                          have c73b0 : ((bt a0 (ji17)) == 57) = false := beq_eq_false_iff_ne.mpr c73
                                                          have c73b1 : ((bt a0 (ji17)) != 57) = true := bne_iff_ne.mpr c73
                                                          have H' := Aside0.mk H
                                                          clear H
                                                          have p68 : 0 ≤ ((ji17) : Int) := of_decide_eq_true (by first | (with_reducible assumption) | assumption)
                                                          have q68 : (ji17) < (a0.size : Int) := of_decide_eq_true (by first | (with_reducible assumption) | assumption)
                                                          have hx68 := bt_at a0 (ji17)
                                                          replace p68 := eq_true p68
                                                          replace q68 := eq_true q68
                                                          have p70 : 0 ≤ ((ji52) : Int) := of_decide_eq_true (by first | (with_reducible assumption) | assumption)
                                                          have q70 : (ji52) < (a0.size : Int) := of_decide_eq_true (by first | (with_reducible assumption) | assumption)
                                                          have hx70 := bt_at a0 (ji52)
                                                          replace p70 := eq_true p70
                                                          replace q70 := eq_true q70
                                                          have p72 : 0 ≤ ((ji17) : Int) := of_decide_eq_true (by first | (with_reducible assumption) | assumption)
                                                          have q72 : (ji17) < (a0.size : Int) := of_decide_eq_true (by first | (with_reducible assumption) | assumption)
                                                          have hx72 := bt_at a0 (ji17)
                                                          replace p72 := eq_true p72
                                                          replace q72 := eq_true q72
                                                          go_wp2
                                                          go_meet
                                                          case rel => exact ⟨_, (false), (by first | rfl | (simp; done) | (simp [*]; done)), H', ⟨by have := HJ5.out; have := HJ34.out; first | omega | exact Nat.le_refl _⟩, ⟨by repeat (first | (with_reducible first | exact HB.out | apply below_alloc | apply pw_below_drewN | apply below_drew1) | exact HB.out)⟩⟩
                                                    · rw [if_neg c69] at H
                                                      have c69b0 : ((bt a0 (ji17)) == 48) = false := beq_eq_false_iff_ne.mpr c69
                                                      have c69b1 : ((bt a0 (ji17)) != 48) = true := bne_iff_ne.mpr c69
                                                      (first | rw [c69b0] | (simp only [i64_w, i32_w]; rw [c69b0]) | skip)
                                                      by_cases c76 : (bt a0 (ji17)) = 57
                                                      · rw [if_pos c76] at H
                                                        have c76b0 : ((bt a0 (ji17)) == 57) = true := beq_iff_eq.mpr c76
                                                        have c76b1 : ((bt a0 (ji17)) != 57) = false := bne_eq_false_iff_eq.mpr c76
                                                        clear c76
                                                        have H' := Aside0.mk H
                                                        clear H
                                                        have p68 : 0 ≤ ((ji17) : Int) := of_decide_eq_true (by first | (with_reducible assumption) | assumption)
                                                        have q68 : (ji17) < (a0.size : Int) := of_decide_eq_true (by first | (with_reducible assumption) | assumption)
                                                        have hx68 := bt_at a0 (ji17)
                                                        replace p68 := eq_true p68
                                                        replace q68 := eq_true q68
                                                        have p75 : 0 ≤ ((ji17) : Int) := of_decide_eq_true (by first | (with_reducible assumption) | assumption)
                                                        have q75 : (ji17) < (a0.size : Int) := of_decide_eq_true (by first | (with_reducible assumption) | assumption)
                                                        have hx75 := bt_at a0 (ji17)
                                                        replace p75 := eq_true p75
                                                        replace q75 := eq_true q75
                                                        have p77 : 0 ≤ ((ji52) : Int) := of_decide_eq_true (by first | (with_reducible assumption) | assumption)
                                                        have q77 : (ji52) < (a0.size : Int) := of_decide_eq_true (by first | (with_reducible assumption) | assumption)
                                                        have hx77 := bt_at a0 (ji52)
                                                        replace p77 := eq_true p77
                                                        replace q77 := eq_true q77
                                                        go_wp2
                                                        go_meet
                                                        case rel => exact ⟨_, (((bt a0 (ji52)) == 48)), (by first | rfl | (simp; done) | (simp only [← hji52] <;> (first | rfl | simp)) | (simp [*]; done)), H', ⟨by have := HJ5.out; have := HJ34.out; first | omega | exact Nat.le_refl _⟩, ⟨by repeat (first | (with_reducible first | exact HB.out | apply below_alloc | apply pw_below_drewN | apply below_drew1) | exact HB.out)⟩⟩
                                                      · rw [if_neg c76] at H
                                                        have c76b0 : ((bt a0 (ji17)) == 57) = false := beq_eq_false_iff_ne.mpr c76
                                                        have c76b1 : ((bt a0 (ji17)) != 57) = true := bne_iff_ne.mpr c76
                                                        have H' := Aside0.mk H
                                                        clear H
                                                        have p68 : 0 ≤ ((ji17) : Int) := of_decide_eq_true (by first | (with_reducible assumption) | assumption)
                                                        have q68 : (ji17) < (a0.size : Int) := of_decide_eq_true (by first | (with_reducible assumption) | assumption)
                                                        have hx68 := bt_at a0 (ji17)
                                                        replace p68 := eq_true p68
                                                        replace q68 := eq_true q68
                                                        have p75 : 0 ≤ ((ji17) : Int) := of_decide_eq_true (by first | (with_reducible assumption) | assumption)
                                                        have q75 : (ji17) < (a0.size : Int) := of_decide_eq_true (by first | (with_reducible assumption) | assumption)
                                                        have hx75 := bt_at a0 (ji17)
                                                        replace p75 := eq_true p75
                                                        replace q75 := eq_true q75
                                                        go_wp2
                                                        go_meet
                                                        case rel => exact ⟨_, (false), (by first | rfl | (simp; done) | (simp [*]; done)), H', ⟨by have := HJ5.out; have := HJ34.out; first | omega | exact Nat.le_refl _⟩, ⟨by repeat (first | (with_reducible first | exact HB.out | apply below_alloc | apply pw_below_drewN | apply below_drew1) | exact HB.out)⟩⟩
                                                  case rest =>
                                                    clear HC63
                                                    try clear c1
                                                    try clear c2
                                                    try clear p2
                                                    try clear q2
                                                    try clear hx2
                                                    try clear hcv3
                                                    try clear c4
                                                    try clear p4
                                                    try clear q4
                                                    try clear hx4
                                                    try clear c5
                                                    try clear p5
                                                    try clear q5
                                                    try clear hx5
                                                    try clear c6
                                                    try clear p6
                                                    try clear q6
                                                    try clear hx6
                                                    try clear hcv6
                                                    try clear c7
                                                    try clear p7
                                                    try clear q7
                                                    try clear hx7
                                                    try clear c10
                                                    try clear c12
                                                    try clear c18
                                                    try clear c18b0
                                                    try clear c18b1
                                                    try clear c19
                                                    try clear c19b0
                                                    try clear c19b1
                                                    try clear c20
                                                    try clear c20b0
                                                    try clear c20b1
                                                    try clear c20b2
                                                    try clear c22
                                                    try clear c22b0
                                                    try clear c22b1
                                                    try clear c23
                                                    try clear c23b0
                                                    try clear c23b1
                                                    try clear c24
                                                    try clear c24b0
                                                    try clear c24b1
                                                    try clear c24b2
                                                    try clear c26
                                                    try clear c26b0
                                                    try clear p27
                                                    try clear q27
                                                    try clear hx27
                                                    try clear c28
                                                    try clear c28b0
                                                    try clear c28b1
                                                    try clear c28b2
                                                    try clear hcv32
                                                    try clear hcv39
                                                    try clear c42
                                                    try clear c42b0
                                                    try clear c42b1
                                                    try clear c43
                                                    try clear c43b0
                                                    try clear p44
                                                    try clear q44
                                                    try clear hx44
                                                    try clear c45
                                                    try clear c45b0
                                                    try clear p46
                                                    try clear q46
                                                    try clear hx46
                                                    try clear c47
                                                    try clear c50
                                                    try clear c50b0
                                                    try clear c50b1
                                                    try clear c51
                                                    try clear c51b0
                                                    try clear c51b1
                                                    try clear c53
                                                    try clear c53b0
                                                    try clear c54
                                                    try clear c54b0
                                                    try clear p55
                                                    try clear q55
                                                    try clear hx55
                                                    try clear c56
                                                    try clear c56b0
                                                    try clear p57
                                                    try clear q57
                                                    try clear hx57
                                                    try clear c58
                                                    try clear c58b0
                                                    try clear c58b1
                                                    try clear c58b2
                                                    try clear c60
                                                    try clear c60b0
                                                    try clear c60b1
                                                    try clear c61
                                                    try clear c61b0
                                                    try clear c61b1
                                                    try clear c62
                                                    try clear c62b0
                                                    try clear c62b1
                                                    try clear c62b2
                                                    try clear p64
                                                    try clear hcv67
                                                    try clear p68
                                                    try clear q68
                                                    try clear hx68
                                                    try clear c69
                                                    try clear c69b0
                                                    try clear c69b1
                                                    try clear p70
                                                    try clear q70
                                                    try clear hx70
                                                    try clear c71
                                                    try clear c71b0
                                                    try clear c71b1
                                                    try clear p72
                                                    try clear q72
                                                    try clear hx72
                                                    try clear c73
                                                    try clear c73b0
                                                    try clear c73b1
                                                    try clear p74
                                                    try clear q74
                                                    try clear hx74
                                                    try clear p75
                                                    try clear q75
                                                    try clear hx75
                                                    try clear c76
                                                    try clear c76b0
                                                    try clear c76b1
                                                    try clear p77
                                                    try clear q77
                                                    try clear hx77
                                                    try clear p2
                                                    try clear p27
                                                    try clear p4
                                                    try clear p44
                                                    try clear p46
                                                    try clear p55
                                                    try clear p57
                                                    try clear p6
                                                    try clear p68
                                                    try clear p70
                                                    try clear p72
                                                    try clear p74
                                                    try clear p75
                                                    try clear p77
                                                    try clear q2
                                                    try clear q27
                                                    try clear q4
                                                    try clear q44
                                                    try clear q46
                                                    try clear q55
                                                    try clear q57
                                                    try clear q68
                                                    try clear q70
                                                    try clear q72
                                                    try clear q74
                                                    try clear q75
                                                    try clear q77
                                                    obtain ⟨kq, x11_62, rfl, HA, HJ62, HB⟩ := hcut
                                                    cases kq with
                                                    | zero => exact absurd HA.out (by simp [lombardlaw05_IsinSlips.j2])
                                                    | succ kj62 =>
                                                      have H := HA.out
                                                      clear HA
                                                      simp only [lombardlaw05_IsinSlips.j2] at H
                                                      by_cases c78 : x11_62 = true
                                                      · subst c78
                                                        have H1 : ((I.lombardlaw05_awake.f kj62).bind fun t112 => (some t112)) = some r := by rw [if_pos rfl] at H; exact H
                                                        clear H
                                                        have H := H1
                                                        clear H1
                                                        replace H := Option.bind_eq_some_iff.mp H
                                                        obtain ⟨t112, A790, H⟩ := H
                                                        replace H : (some t112) = some r := H
                                                        have A79 := Aside0.mk A790
                                                        clear A790
                                                        obtain rfl := Option.some.inj H
                                                        try go_wp2
                                                        have n0_ := Aside0.mk (below_drew1 HB.out)
                                                        clear HB
                                                        have HB := n0_
                                                        clear n0_
                                                        refine start_ (n := 19) (S := fun w' => True) (ds := []) #[false, false, false, false, false, false, false, false, false, false, false, false, false, false, false, false, false, false, false] (by kernel_rfl) rfl rfl trivial (fun hHeld => ?_); refine with_tabW lombardlaw05_IsinSlips.tab14 lombardlaw05_IsinSlips.bits14 (fun HT_ HW_ => ?_)
                                                        generalize wc.drew = w80 at HB hHeld ⊢
                                                        refine pure_ (i := 0) (N := some 113) (v := ?_) (a' := ?_) #[true, false, false, false, false, false, false, false, false, false, false, false, false, false, false, false, false, false, false] rfl rfl (any_of HT_.out (by kernel_rfl)) (fun _ _ _ h => h) (Or.inl ⟨by rfl, ?_⟩) ?_ ?_
                                                        rotate_left
                                                        · intro w'
                                                          go_simp
                                                          with_reducible rfl
                                                        rotate_left
                                                        · simp only [Act.put, List.setIfInBounds_toArray, List.set_cons_zero, List.set_cons_succ, i64_w, i32_w]
                                                          rfl
                                                        refine pure_ (i := 1) (N := some 114) (v := ?_) (a' := ?_) #[true, true, false, false, false, false, false, false, false, false, false, false, false, false, false, false, false, false, false] rfl rfl (any_of HT_.out (by kernel_rfl)) (fun _ _ _ h => h) (Or.inl ⟨by rfl, ?_⟩) ?_ ?_
                                                        rotate_left
                                                        · intro w'
                                                          go_simp
                                                          with_reducible rfl
                                                        rotate_left
                                                        · simp only [Act.put, List.setIfInBounds_toArray, List.set_cons_zero, List.set_cons_succ, i64_w, i32_w]
                                                          rfl
                                                        refine pure_ (i := 2) (N := some 115) (v := undef) (a' := ?_) #[true, true, true, false, false, false, false, false, false, false, false, false, false, false, false, false, false, false, false] rfl rfl (any_of HT_.out (by kernel_rfl)) (fun _ _ _ h => h) (Or.inr ⟨by rfl, rfl⟩) ?_ ?_
                                                        rotate_left
                                                        · simp only [Act.put, List.setIfInBounds_toArray, List.set_cons_zero, List.set_cons_succ, i64_w, i32_w]
                                                          rfl
                                                        refine pure_ (i := 3) (N := some 116) (v := undef) (a' := ?_) #[true, true, true, true, false, false, false, false, false, false, false, false, false, false, false, false, false, false, false] rfl rfl (any_of HT_.out (by kernel_rfl)) (fun _ _ _ h => h) (Or.inr ⟨by rfl, rfl⟩) ?_ ?_
                                                        rotate_left
                                                        · simp only [Act.put, List.setIfInBounds_toArray, List.set_cons_zero, List.set_cons_succ, i64_w, i32_w]
                                                          rfl
                                                        refine pure_ (i := 4) (N := some 117) (v := undef) (a' := ?_) #[true, true, true, true, true, false, false, false, false, false, false, false, false, false, false, false, false, false, false] rfl rfl (any_of HT_.out (by kernel_rfl)) (fun _ _ _ h => h) (Or.inr ⟨by rfl, rfl⟩) ?_ ?_
                                                        rotate_left
                                                        · simp only [Act.put, List.setIfInBounds_toArray, List.set_cons_zero, List.set_cons_succ, i64_w, i32_w]
                                                          rfl
                                                        refine pure_ (i := 5) (N := some 118) (v := undef) (a' := ?_) #[true, true, true, true, true, true, false, false, false, false, false, false, false, false, false, false, false, false, false] rfl rfl (any_of HT_.out (by kernel_rfl)) (fun _ _ _ h => h) (Or.inr ⟨by rfl, rfl⟩) ?_ ?_
                                                        rotate_left
                                                        · simp only [Act.put, List.setIfInBounds_toArray, List.set_cons_zero, List.set_cons_succ, i64_w, i32_w]
                                                          rfl
                                                        refine pure_ (i := 6) (N := some 119) (v := undef) (a' := ?_) #[true, true, true, true, true, true, true, false, false, false, false, false, false, false, false, false, false, false, false] rfl rfl (any_of HT_.out (by kernel_rfl)) (fun _ _ _ h => h) (Or.inr ⟨by rfl, rfl⟩) ?_ ?_
                                                        rotate_left
                                                        · simp only [Act.put, List.setIfInBounds_toArray, List.set_cons_zero, List.set_cons_succ, i64_w, i32_w]
                                                          rfl
                                                        refine pure_ (i := 7) (N := some 120) (v := undef) (a' := ?_) #[true, true, true, true, true, true, true, true, false, false, false, false, false, false, false, false, false, false, false] rfl rfl (any_of HT_.out (by kernel_rfl)) (fun _ _ _ h => h) (Or.inr ⟨by rfl, rfl⟩) ?_ ?_
                                                        rotate_left
                                                        · simp only [Act.put, List.setIfInBounds_toArray, List.set_cons_zero, List.set_cons_succ, i64_w, i32_w]
                                                          rfl
                                                        refine pure_ (i := 8) (N := some 121) (v := undef) (a' := ?_) #[true, true, true, true, true, true, true, true, true, false, false, false, false, false, false, false, false, false, false] rfl rfl (any_of HT_.out (by kernel_rfl)) (fun _ _ _ h => h) (Or.inr ⟨by rfl, rfl⟩) ?_ ?_
                                                        rotate_left
                                                        · simp only [Act.put, List.setIfInBounds_toArray, List.set_cons_zero, List.set_cons_succ, i64_w, i32_w]
                                                          rfl
                                                        refine pure_ (i := 9) (N := some 122) (v := undef) (a' := ?_) #[true, true, true, true, true, true, true, true, true, true, false, false, false, false, false, false, false, false, false] rfl rfl (any_of HT_.out (by kernel_rfl)) (fun _ _ _ h => h) (Or.inr ⟨by rfl, rfl⟩) ?_ ?_
                                                        rotate_left
                                                        · simp only [Act.put, List.setIfInBounds_toArray, List.set_cons_zero, List.set_cons_succ, i64_w, i32_w]
                                                          rfl
                                                        refine pure_ (i := 10) (N := some 123) (v := undef) (a' := ?_) #[true, true, true, true, true, true, true, true, true, true, true, false, false, false, false, false, false, false, false] rfl rfl (any_of HT_.out (by kernel_rfl)) (fun _ _ _ h => h) (Or.inr ⟨by rfl, rfl⟩) ?_ ?_
                                                        rotate_left
                                                        · simp only [Act.put, List.setIfInBounds_toArray, List.set_cons_zero, List.set_cons_succ, i64_w, i32_w]
                                                          rfl
                                                        refine pure_ (i := 11) (N := some 124) (v := undef) (a' := ?_) #[true, true, true, true, true, true, true, true, true, true, true, true, false, false, false, false, false, false, false] rfl rfl (any_of HT_.out (by kernel_rfl)) (fun _ _ _ h => h) (Or.inr ⟨by rfl, rfl⟩) ?_ ?_
                                                        rotate_left
                                                        · simp only [Act.put, List.setIfInBounds_toArray, List.set_cons_zero, List.set_cons_succ, i64_w, i32_w]
                                                          rfl
                                                        refine pure_ (i := 12) (N := some 125) (v := undef) (a' := ?_) #[true, true, true, true, true, true, true, true, true, true, true, true, true, false, false, false, false, false, false] rfl rfl (any_of HT_.out (by kernel_rfl)) (fun _ _ _ h => h) (Or.inr ⟨by rfl, rfl⟩) ?_ ?_
                                                        rotate_left
                                                        · simp only [Act.put, List.setIfInBounds_toArray, List.set_cons_zero, List.set_cons_succ, i64_w, i32_w]
                                                          rfl
                                                        refine pure_ (i := 13) (N := some 126) (v := undef) (a' := ?_) #[true, true, true, true, true, true, true, true, true, true, true, true, true, true, false, false, false, false, false] rfl rfl (any_of HT_.out (by kernel_rfl)) (fun _ _ _ h => h) (Or.inr ⟨by rfl, rfl⟩) ?_ ?_
                                                        rotate_left
                                                        · simp only [Act.put, List.setIfInBounds_toArray, List.set_cons_zero, List.set_cons_succ, i64_w, i32_w]
                                                          rfl
                                                        refine pure_ (i := 14) (N := some 127) (v := ?_) (a' := ?_) #[true, true, true, true, true, true, true, true, true, true, true, true, true, true, true, false, false, false, false] rfl rfl (any_of HT_.out (by kernel_rfl)) (fun _ _ _ h => h) (Or.inl ⟨by rfl, ?_⟩) ?_ ?_
                                                        rotate_left
                                                        · intro w'
                                                          go_simp
                                                          with_reducible rfl
                                                        rotate_left
                                                        · simp only [Act.put, List.setIfInBounds_toArray, List.set_cons_zero, List.set_cons_succ, i64_w, i32_w]
                                                          rfl
                                                        refine pure_ (i := 15) (N := some 128) (v := ?_) (a' := ?_) #[true, true, true, true, true, true, true, true, true, true, true, true, true, true, true, true, false, false, false] rfl rfl (any_of HT_.out (by kernel_rfl)) (fun _ _ _ h => h) (Or.inl ⟨by rfl, ?_⟩) ?_ ?_
                                                        rotate_left
                                                        · intro w'
                                                          go_simp
                                                          with_reducible rfl
                                                        rotate_left
                                                        · simp only [Act.put, List.setIfInBounds_toArray, List.set_cons_zero, List.set_cons_succ, i64_w, i32_w]
                                                          rfl
                                                        refine one_ (i := 16) (N := some 129) #[true, true, true, true, true, true, true, true, true, true, true, true, true, true, true, true, true, false, false] rfl rfl (one_of HT_.out (by kernel_rfl)) (by decide) (fun K hK => ?_)
                                                        refine goes_ Try.func12 (by kernel_rfl) rfl #[] (by rfl) rfl rfl (by (try simp only [List.map_toArray, List.map_cons, List.map_nil]); first | done | rfl | (simp only [List.length_drop, List.length_take]; rfl)) ?_
                                                        with_reducible refine (I.lombardlaw05_awake.calls kj62  t112 _ A79.out).mono ?_
                                                        rintro e w81 ⟨rfl, hb⟩
                                                        refine ⟨_, rfl, ?_⟩
                                                        have n0_ := Aside0.mk (below_step (by repeat (first | (with_reducible first | exact HB.out | apply below_alloc | apply pw_below_drewN | apply below_drew1) | exact HB.out)) hb)
                                                        clear HB
                                                        have HB := n0_
                                                        clear n0_
                                                        (try clear hb)
                                                        (try clear hb2)
                                                        (try clear hk)
                                                        (try clear hi)
                                                        refine hK.out _ _ trivial (fun hHeld => ?_)
                                                        clear hK K
                                                        refine norm_ (a' := ?_) ?_ ?_
                                                        rotate_left
                                                        · show Act.put _ (some 129) _ = _
                                                          simp only [Act.put, List.setIfInBounds_toArray, List.set_cons_zero, List.set_cons_succ, i64_w, i32_w]
                                                          rfl
                                                        refine pure_ (i := 17) (N := some 130) (v := ?_) (a' := ?_) #[true, true, true, true, true, true, true, true, true, true, true, true, true, true, true, true, true, true, false] rfl rfl (any_of HT_.out (by kernel_rfl)) (fun _ _ _ h => h) (Or.inl ⟨by rfl, ?_⟩) ?_ ?_
                                                        rotate_left
                                                        · intro w'
                                                          go_simp
                                                          with_reducible rfl
                                                        rotate_left
                                                        · simp only [Act.put, List.setIfInBounds_toArray, List.set_cons_zero, List.set_cons_succ, i64_w, i32_w]
                                                          rfl
                                                        refine pure_ (i := 18) (N := some 6) (v := ?_) (a' := ?_) #[true, true, true, true, true, true, true, true, true, true, true, true, true, true, true, true, true, true, true] rfl rfl (any_of HT_.out (by kernel_rfl)) (fun _ _ _ h => h) (Or.inl ⟨by rfl, ?_⟩) ?_ ?_
                                                        rotate_left
                                                        · intro w'
                                                          go_simp
                                                          with_reducible rfl
                                                        rotate_left
                                                        · simp only [Act.put, List.setIfInBounds_toArray, List.set_cons_zero, List.set_cons_succ, i64_w, i32_w]
                                                          rfl
                                                        refine done_ (done_of HT_.out (by kernel_rfl)) ?_
                                                        try go_wp2
                                                        go_ret
                                                        exact ⟨by first | rfl | (simp [errW_none, errW_some] <;> rfl) | (simp only [← hji17, ← hji21, ← hji52, ← hji59]; first | rfl | (simp [errW_none, errW_some] <;> rfl)) | (simp [*, errW_none, errW_some] <;> rfl), by repeat (first | (with_reducible first | exact HB.out | apply below_alloc | apply pw_below_drewN | apply below_drew1) | exact HB.out)⟩
                                                      · replace c78 := Bool.eq_false_iff.mpr c78
                                                        subst c78
                                                        have H1 : ((I.isin_Check.f kj62 (((a0.extract 0 ((ji17) : Int).toNat) ++ (strOfNums y109)) ++ (a0.extract ((ji59) : Int).toNat a0.size))).bind fun t113 => (if 0 ≤ (ji17) then (if (ji17) < (a0.size : Int) then (if 0 ≤ (wrap64 ((ji17) + 1)) then (if (wrap64 ((ji17) + 1)) < (a0.size : Int) then (if ((t113 == 0) == ((bt a0 (ji17)) == (bt a0 (wrap64 ((ji17) + 1))))) = true then ((I.lombardlaw05_awake.f kj62).bind fun t114 => (some t114)) else (some false)) else (none)) else (none)) else (none)) else (none))) = some r := by rw [if_neg (show ¬ (false = true) by decide)] at H; exact H
                                                        clear H
                                                        have H := H1
                                                        clear H1
                                                        replace H := Option.bind_eq_some_iff.mp H
                                                        obtain ⟨t113, A820, H⟩ := H
                                                        replace H : (if 0 ≤ (ji17) then (if (ji17) < (a0.size : Int) then (if 0 ≤ (wrap64 ((ji17) + 1)) then (if (wrap64 ((ji17) + 1)) < (a0.size : Int) then (if ((t113 == 0) == ((bt a0 (ji17)) == (bt a0 (wrap64 ((ji17) + 1))))) = true then ((I.lombardlaw05_awake.f kj62).bind fun t114 => (some t114)) else (some false)) else (none)) else (none)) else (none)) else (none)) = some r := H
                                                        have A82 := Aside0.mk A820
                                                        clear A820
                                                        by_cases c83 : 0 ≤ (ji17)
                                                        · rw [if_pos c83] at H
                                                          have c83b0 : decide (0 ≤ (ji17)) = true := decide_eq_true c83
                                                          clear c83
                                                          by_cases c84 : (ji17) < (a0.size : Int)
                                                          · rw [if_pos c84] at H
                                                            have c84b0 : decide ((ji17) < (a0.size : Int)) = true := decide_eq_true c84
                                                            clear c84
                                                            obtain ⟨ji86, hji86⟩ : ∃ j_ : Int, (wrap64 ((ji17) + 1)) = j_ := ⟨_, rfl⟩
                                                            replace H : (if 0 ≤ (ji86) then (if (ji86) < (a0.size : Int) then (if ((t113 == 0) == ((bt a0 (ji17)) == (bt a0 (ji86)))) = true then ((I.lombardlaw05_awake.f kj62).bind fun t114 => (some t114)) else (some false)) else (none)) else (none)) = some r := by first | (rw [hji86] at H; exact H) | (simp only [hji86] at H ⊢; exact H)
                                                            (try rw [hji86] at A82)
                                                            have hji86w : (IntKind.i64.wrap ((ji17) + 1)) = ji86 := (i64_w _).trans hji86
                                                            have eji86 : ji86 = ji52 := hji86.symm.trans hji52
                                                            subst eji86
                                                            by_cases c87 : 0 ≤ (ji86)
                                                            · rw [if_pos c87] at H
                                                              have c87b0 : decide (0 ≤ (ji86)) = true := decide_eq_true c87
                                                              clear c87
                                                              by_cases c88 : (ji86) < (a0.size : Int)
                                                              · rw [if_pos c88] at H
                                                                have c88b0 : decide ((ji86) < (a0.size : Int)) = true := decide_eq_true c88
                                                                clear c88
                                                                by_cases c90 : ((t113 == 0) == ((bt a0 (ji17)) == (bt a0 (ji86)))) = true
                                                                · rw [if_pos c90] at H
                                                                  have c90b0 : ((t113 == 0) == ((bt a0 (ji17)) == (bt a0 (ji86)))) = true := c90
                                                                  (try (have c90b1 : decide ((t113 == 0) = ((bt a0 (ji17)) == (bt a0 (ji86)))) = true := by simpa using c90))
                                                                  (try (have c90b2 : ((t113 == 0) == ((bt a0 (ji17)) == (bt a0 (ji86)))) = true := by simpa using c90))
                                                                  clear c90
                                                                  replace H := Option.bind_eq_some_iff.mp H
                                                                  obtain ⟨t114, A910, H⟩ := H
                                                                  replace H : (some t114) = some r := H
                                                                  have A91 := Aside0.mk A910
                                                                  clear A910
                                                                  obtain rfl := Option.some.inj H
                                                                  try go_wp2
                                                                  have n0_ := Aside0.mk (below_drew1 HB.out)
                                                                  clear HB
                                                                  have HB := n0_
                                                                  clear n0_
                                                                  have p85 : 0 ≤ ((ji17) : Int) := of_decide_eq_true (by first | (with_reducible assumption) | assumption)
                                                                  have q85 : (ji17) < (a0.size : Int) := of_decide_eq_true (by first | (with_reducible assumption) | assumption)
                                                                  have hx85 := bt_at a0 (ji17)
                                                                  replace p85 := eq_true p85
                                                                  replace q85 := eq_true q85
                                                                  have p89 : 0 ≤ ((ji86) : Int) := of_decide_eq_true (by first | (with_reducible assumption) | assumption)
                                                                  have q89 : (ji86) < (a0.size : Int) := of_decide_eq_true (by first | (with_reducible assumption) | assumption)
                                                                  have hx89 := bt_at a0 (ji86)
                                                                  replace p89 := eq_true p89
                                                                  replace q89 := eq_true q89
                                                                  refine start_ (n := 19) (S := fun w' => True) (ds := []) #[false, false, false, false, false, false, false, false, false, false, false, false, false, false, false, false, false, false, false] (by kernel_rfl) rfl rfl trivial (fun hHeld => ?_); refine with_tabW lombardlaw05_IsinSlips.tab14 lombardlaw05_IsinSlips.bits14 (fun HT_ HW_ => ?_)
                                                                  generalize wc.drew = w92 at HB hHeld ⊢
                                                                  refine pure_ (i := 0) (N := some 113) (v := ?_) (a' := ?_) #[true, false, false, false, false, false, false, false, false, false, false, false, false, false, false, false, false, false, false] rfl rfl (any_of HT_.out (by kernel_rfl)) (fun _ _ _ h => h) (Or.inl ⟨by rfl, ?_⟩) ?_ ?_
                                                                  rotate_left
                                                                  · intro w'
                                                                    go_simp
                                                                    with_reducible rfl
                                                                  rotate_left
                                                                  · simp only [Act.put, List.setIfInBounds_toArray, List.set_cons_zero, List.set_cons_succ, i64_w, i32_w]
                                                                    rfl
                                                                  refine pure_ (i := 1) (N := some 114) (v := ?_) (a' := ?_) #[true, true, false, false, false, false, false, false, false, false, false, false, false, false, false, false, false, false, false] rfl rfl (any_of HT_.out (by kernel_rfl)) (fun _ _ _ h => h) (Or.inl ⟨by rfl, ?_⟩) ?_ ?_
                                                                  rotate_left
                                                                  · intro w'
                                                                    go_simp
                                                                    with_reducible rfl
                                                                  rotate_left
                                                                  · simp only [Act.put, List.setIfInBounds_toArray, List.set_cons_zero, List.set_cons_succ, i64_w, i32_w]
                                                                    rfl
                                                                  refine pure_ (i := 2) (N := some 115) (v := ?_) (a' := ?_) #[true, true, true, false, false, false, false, false, false, false, false, false, false, false, false, false, false, false, false] rfl rfl (any_of HT_.out (by kernel_rfl)) (fun _ _ _ h => h) (Or.inl ⟨by rfl, ?_⟩) ?_ ?_
                                                                  rotate_left
                                                                  · intro w'
                                                                    go_simp
                                                                    with_reducible rfl
                                                                  rotate_left
                                                                  · simp only [Act.put, List.setIfInBounds_toArray, List.set_cons_zero, List.set_cons_succ, i64_w, i32_w]
                                                                    rfl
                                                                  refine pure_ (i := 5) (N := some 118) (v := ?_) (a' := ?_) #[true, true, true, false, false, true, false, false, false, false, false, false, false, false, false, false, false, false, false] rfl rfl (any_of HT_.out (by kernel_rfl)) (fun _ _ _ h => h) (Or.inl ⟨by rfl, ?_⟩) ?_ ?_
                                                                  rotate_left
                                                                  · intro w'
                                                                    go_simp
                                                                    with_reducible rfl
                                                                  rotate_left
                                                                  · simp only [Act.put, List.setIfInBounds_toArray, List.set_cons_zero, List.set_cons_succ, i64_w, i32_w]
                                                                    rfl
                                                                  refine pure_ (i := 6) (N := some 119) (v := ?_) (a' := ?_) #[true, true, true, false, false, true, true, false, false, false, false, false, false, false, false, false, false, false, false] rfl rfl (any_of HT_.out (by kernel_rfl)) (fun _ _ _ h => h) (Or.inl ⟨by rfl, ?_⟩) ?_ ?_
                                                                  rotate_left
                                                                  · intro w'
                                                                    go_simp
                                                                    with_reducible rfl
                                                                  rotate_left
                                                                  · simp only [Act.put, List.setIfInBounds_toArray, List.set_cons_zero, List.set_cons_succ, i64_w, i32_w]
                                                                    rfl
                                                                  refine pure_ (i := 8) (N := some 121) (v := ?_) (a' := ?_) #[true, true, true, false, false, true, true, false, true, false, false, false, false, false, false, false, false, false, false] rfl rfl (any_of HT_.out (by kernel_rfl)) (fun _ _ _ h => h) (Or.inl ⟨by rfl, ?_⟩) ?_ ?_
                                                                  rotate_left
                                                                  · intro w'
                                                                    go_simp
                                                                    with_reducible rfl
                                                                  rotate_left
                                                                  · simp only [Act.put, List.setIfInBounds_toArray, List.set_cons_zero, List.set_cons_succ, i64_w, i32_w]
                                                                    rfl
                                                                  refine pure_ (i := 9) (N := some 122) (v := ?_) (a' := ?_) #[true, true, true, false, false, true, true, false, true, true, false, false, false, false, false, false, false, false, false] rfl rfl (any_of HT_.out (by kernel_rfl)) (fun _ _ _ h => h) (Or.inl ⟨by rfl, ?_⟩) ?_ ?_
                                                                  rotate_left
                                                                  · intro w'
                                                                    go_simp
                                                                    with_reducible rfl
                                                                  rotate_left
                                                                  · simp only [Act.put, List.setIfInBounds_toArray, List.set_cons_zero, List.set_cons_succ, i64_w, i32_w]
                                                                    rfl
                                                                  refine pure_ (i := 10) (N := some 123) (v := ?_) (a' := ?_) #[true, true, true, false, false, true, true, false, true, true, true, false, false, false, false, false, false, false, false] rfl rfl (any_of HT_.out (by kernel_rfl)) (fun _ _ _ h => h) (Or.inl ⟨by rfl, ?_⟩) ?_ ?_
                                                                  rotate_left
                                                                  · intro w'
                                                                    go_simp
                                                                    with_reducible rfl
                                                                  rotate_left
                                                                  · simp only [Act.put, List.setIfInBounds_toArray, List.set_cons_zero, List.set_cons_succ, i64_w, i32_w]
                                                                    rfl
                                                                  refine take_ (i := 7) (N := some 120) (v := ?_) (a' := ?_) #[true, true, true, false, false, true, true, true, true, true, true, false, false, false, false, false, false, false, false] rfl rfl (take_ofW HT_.out HW_.out (by kernel_rfl)) (fun _ _ _ h => h) (Or.inl ⟨by rfl, ?_⟩) hHeld ?_ ?_
                                                                  rotate_left
                                                                  · intro w' _
                                                                    go_simp
                                                                    with_reducible rfl
                                                                  rotate_left
                                                                  · simp only [Act.put, List.setIfInBounds_toArray, List.set_cons_zero, List.set_cons_succ, i64_w, i32_w]
                                                                    rfl
                                                                  refine take_ (i := 11) (N := some 124) (v := ?_) (a' := ?_) #[true, true, true, false, false, true, true, true, true, true, true, true, false, false, false, false, false, false, false] rfl rfl (take_ofW HT_.out HW_.out (by kernel_rfl)) (fun _ _ _ h => h) (Or.inl ⟨by rfl, ?_⟩) hHeld ?_ ?_
                                                                  rotate_left
                                                                  · intro w' _
                                                                    go_simp
                                                                    with_reducible rfl
                                                                  rotate_left
                                                                  · simp only [Act.put, List.setIfInBounds_toArray, List.set_cons_zero, List.set_cons_succ, i64_w, i32_w]
                                                                    rfl
                                                                  refine pure_ (i := 12) (N := some 125) (v := ?_) (a' := ?_) #[true, true, true, false, false, true, true, true, true, true, true, true, true, false, false, false, false, false, false] rfl rfl (any_of HT_.out (by kernel_rfl)) (fun _ _ _ h => h) (Or.inl ⟨by rfl, ?_⟩) ?_ ?_
                                                                  rotate_left
                                                                  · intro w'
                                                                    go_simp
                                                                    with_reducible rfl
                                                                  rotate_left
                                                                  · simp only [Act.put, List.setIfInBounds_toArray, List.set_cons_zero, List.set_cons_succ, i64_w, i32_w]
                                                                    rfl
                                                                  refine one_ (i := 3) (N := some 116) #[true, true, true, true, false, true, true, true, true, true, true, true, true, false, false, false, false, false, false] rfl rfl (one_of HT_.out (by kernel_rfl)) (by decide) (fun K hK => ?_)
                                                                  refine goes_ Try.func10 (by kernel_rfl) rfl #[.string (((a0.extract 0 ((ji17) : Int).toNat) ++ (strOfNums y109)) ++ (a0.extract ((ji59) : Int).toNat a0.size))] (by rfl) rfl rfl (by (try simp only [List.map_toArray, List.map_cons, List.map_nil]); first | done | (simp only [hji17, hji59]; rfl) | rfl | (simp only [List.length_drop, List.length_take]; rfl)) ?_
                                                                  with_reducible refine (I.isin_Check.calls kj62 (((a0.extract 0 ((ji17) : Int).toNat) ++ (strOfNums y109)) ++ (a0.extract ((ji59) : Int).toNat a0.size)) t113 _ A82.out).mono ?_
                                                                  rintro e w93 ⟨rfl, hb⟩
                                                                  refine ⟨_, rfl, ?_⟩
                                                                  have n0_ := Aside0.mk (below_step (by repeat (first | (with_reducible first | exact HB.out | apply below_alloc | apply pw_below_drewN | apply below_drew1) | exact HB.out)) hb)
                                                                  clear HB
                                                                  have HB := n0_
                                                                  clear n0_
                                                                  (try clear hb)
                                                                  (try clear hb2)
                                                                  (try clear hk)
                                                                  (try clear hi)
                                                                  refine hK.out _ _ trivial (fun hHeld => ?_)
                                                                  clear hK K
                                                                  refine norm_ (a' := ?_) ?_ ?_
                                                                  rotate_left
                                                                  · show Act.put _ (some 116) _ = _
                                                                    simp only [Act.put, List.setIfInBounds_toArray, List.set_cons_zero, List.set_cons_succ, i64_w, i32_w]
                                                                    rfl
                                                                  refine pure_ (i := 4) (N := some 117) (v := ?_) (a' := ?_) #[true, true, true, true, true, true, true, true, true, true, true, true, true, false, false, false, false, false, false] rfl rfl (any_of HT_.out (by kernel_rfl)) (fun _ _ _ h => h) (Or.inl ⟨by rfl, ?_⟩) ?_ ?_
                                                                  rotate_left
                                                                  · intro w'
                                                                    go_simp
                                                                    with_reducible rfl
                                                                  rotate_left
                                                                  · simp only [Act.put, List.setIfInBounds_toArray, List.set_cons_zero, List.set_cons_succ, i64_w, i32_w]
                                                                    rfl
                                                                  refine pure_ (i := 13) (N := some 126) (v := ?_) (a' := ?_) #[true, true, true, true, true, true, true, true, true, true, true, true, true, true, false, false, false, false, false] rfl rfl (any_of HT_.out (by kernel_rfl)) (fun _ _ _ h => h) (Or.inl ⟨by rfl, ?_⟩) ?_ ?_
                                                                  rotate_left
                                                                  · intro w'
                                                                    go_simp
                                                                    with_reducible rfl
                                                                  rotate_left
                                                                  · simp only [Act.put, List.setIfInBounds_toArray, List.set_cons_zero, List.set_cons_succ, i64_w, i32_w]
                                                                    rfl
                                                                  refine pure_ (i := 14) (N := some 127) (v := ?_) (a' := ?_) #[true, true, true, true, true, true, true, true, true, true, true, true, true, true, true, false, false, false, false] rfl rfl (any_of HT_.out (by kernel_rfl)) (fun _ _ _ h => h) (Or.inl ⟨by rfl, ?_⟩) ?_ ?_
                                                                  rotate_left
                                                                  · intro w'
                                                                    go_simp
                                                                    with_reducible rfl
                                                                  rotate_left
                                                                  · simp only [Act.put, List.setIfInBounds_toArray, List.set_cons_zero, List.set_cons_succ, i64_w, i32_w]
                                                                    rfl
                                                                  refine pure_ (i := 15) (N := some 128) (v := ?_) (a' := ?_) #[true, true, true, true, true, true, true, true, true, true, true, true, true, true, true, true, false, false, false] rfl rfl (any_of HT_.out (by kernel_rfl)) (fun _ _ _ h => h) (Or.inl ⟨by rfl, ?_⟩) ?_ ?_
                                                                  rotate_left
                                                                  · intro w'
                                                                    go_simp
                                                                    with_reducible rfl
                                                                  rotate_left
                                                                  · simp only [Act.put, List.setIfInBounds_toArray, List.set_cons_zero, List.set_cons_succ, i64_w, i32_w]
                                                                    rfl
                                                                  refine one_ (i := 16) (N := some 129) #[true, true, true, true, true, true, true, true, true, true, true, true, true, true, true, true, true, false, false] rfl rfl (one_of HT_.out (by kernel_rfl)) (by decide) (fun K hK => ?_)
                                                                  refine goes_ Try.func12 (by kernel_rfl) rfl #[] (by rfl) rfl rfl (by (try simp only [List.map_toArray, List.map_cons, List.map_nil]); first | done | rfl | (simp only [List.length_drop, List.length_take]; rfl)) ?_
                                                                  with_reducible refine (I.lombardlaw05_awake.calls kj62  t114 _ A91.out).mono ?_
                                                                  rintro e w94 ⟨rfl, hb⟩
                                                                  refine ⟨_, rfl, ?_⟩
                                                                  have n0_ := Aside0.mk (below_step (by repeat (first | (with_reducible first | exact HB.out | apply below_alloc | apply pw_below_drewN | apply below_drew1) | exact HB.out)) hb)
                                                                  clear HB
                                                                  have HB := n0_
                                                                  clear n0_
                                                                  (try clear hb)
                                                                  (try clear hb2)
                                                                  (try clear hk)
                                                                  (try clear hi)
                                                                  refine hK.out _ _ trivial (fun hHeld => ?_)
                                                                  clear hK K
                                                                  refine norm_ (a' := ?_) ?_ ?_
                                                                  rotate_left
                                                                  · show Act.put _ (some 129) _ = _
                                                                    simp only [Act.put, List.setIfInBounds_toArray, List.set_cons_zero, List.set_cons_succ, i64_w, i32_w]
                                                                    rfl
                                                                  refine pure_ (i := 17) (N := some 130) (v := ?_) (a' := ?_) #[true, true, true, true, true, true, true, true, true, true, true, true, true, true, true, true, true, true, false] rfl rfl (any_of HT_.out (by kernel_rfl)) (fun _ _ _ h => h) (Or.inl ⟨by rfl, ?_⟩) ?_ ?_
                                                                  rotate_left
                                                                  · intro w'
                                                                    go_simp
                                                                    with_reducible rfl
                                                                  rotate_left
                                                                  · simp only [Act.put, List.setIfInBounds_toArray, List.set_cons_zero, List.set_cons_succ, i64_w, i32_w]
                                                                    rfl
                                                                  refine pure_ (i := 18) (N := some 6) (v := ?_) (a' := ?_) #[true, true, true, true, true, true, true, true, true, true, true, true, true, true, true, true, true, true, true] rfl rfl (any_of HT_.out (by kernel_rfl)) (fun _ _ _ h => h) (Or.inl ⟨by rfl, ?_⟩) ?_ ?_
                                                                  rotate_left
                                                                  · intro w'
                                                                    go_simp
                                                                    with_reducible rfl
                                                                  rotate_left
                                                                  · simp only [Act.put, List.setIfInBounds_toArray, List.set_cons_zero, List.set_cons_succ, i64_w, i32_w]
                                                                    rfl
                                                                  refine done_ (done_of HT_.out (by kernel_rfl)) ?_
                                                                  try go_wp2
                                                                  go_ret
                                                                  exact ⟨by first | rfl | (simp [errW_none, errW_some] <;> rfl) | (simp only [← hji17, ← hji21, ← hji52, ← hji59, ← hji86]; first | rfl | (simp [errW_none, errW_some] <;> rfl)) | (simp [*, errW_none, errW_some] <;> rfl), by repeat (first | (with_reducible first | exact HB.out | apply below_alloc | apply pw_below_drewN | apply below_drew1) | exact HB.out)⟩
                                                                · rw [if_neg c90] at H
                                                                  have c90b0 : ((t113 == 0) == ((bt a0 (ji17)) == (bt a0 (ji86)))) = false := by simpa using c90
                                                                  (try (have c90b1 : decide ((t113 == 0) = ((bt a0 (ji17)) == (bt a0 (ji86)))) = false := by simpa using c90))
                                                                  (try (have c90b2 : ((t113 == 0) == ((bt a0 (ji17)) == (bt a0 (ji86)))) = false := by simpa using c90))
                                                                  (try (have c90b3 : ¬ ((t113 == 0) = ((bt a0 (ji17)) == (bt a0 (ji86)))) := by simpa using c90))
                                                                  clear c90
                                                                  obtain rfl := Option.some.inj H
                                                                  try go_wp2
                                                                  have n0_ := Aside0.mk (below_drew1 HB.out)
                                                                  clear HB
                                                                  have HB := n0_
                                                                  clear n0_
                                                                  have p85 : 0 ≤ ((ji17) : Int) := of_decide_eq_true (by first | (with_reducible assumption) | assumption)
                                                                  have q85 : (ji17) < (a0.size : Int) := of_decide_eq_true (by first | (with_reducible assumption) | assumption)
                                                                  have hx85 := bt_at a0 (ji17)
                                                                  replace p85 := eq_true p85
                                                                  replace q85 := eq_true q85
                                                                  have p89 : 0 ≤ ((ji86) : Int) := of_decide_eq_true (by first | (with_reducible assumption) | assumption)
                                                                  have q89 : (ji86) < (a0.size : Int) := of_decide_eq_true (by first | (with_reducible assumption) | assumption)
                                                                  have hx89 := bt_at a0 (ji86)
                                                                  replace p89 := eq_true p89
                                                                  replace q89 := eq_true q89
                                                                  refine start_ (n := 19) (S := fun w' => True) (ds := []) #[false, false, false, false, false, false, false, false, false, false, false, false, false, false, false, false, false, false, false] (by kernel_rfl) rfl rfl trivial (fun hHeld => ?_); refine with_tabW lombardlaw05_IsinSlips.tab14 lombardlaw05_IsinSlips.bits14 (fun HT_ HW_ => ?_)
                                                                  generalize wc.drew = w95 at HB hHeld ⊢
                                                                  refine pure_ (i := 0) (N := some 113) (v := ?_) (a' := ?_) #[true, false, false, false, false, false, false, false, false, false, false, false, false, false, false, false, false, false, false] rfl rfl (any_of HT_.out (by kernel_rfl)) (fun _ _ _ h => h) (Or.inl ⟨by rfl, ?_⟩) ?_ ?_
                                                                  rotate_left
                                                                  · intro w'
                                                                    go_simp
                                                                    with_reducible rfl
                                                                  rotate_left
                                                                  · simp only [Act.put, List.setIfInBounds_toArray, List.set_cons_zero, List.set_cons_succ, i64_w, i32_w]
                                                                    rfl
                                                                  refine pure_ (i := 1) (N := some 114) (v := ?_) (a' := ?_) #[true, true, false, false, false, false, false, false, false, false, false, false, false, false, false, false, false, false, false] rfl rfl (any_of HT_.out (by kernel_rfl)) (fun _ _ _ h => h) (Or.inl ⟨by rfl, ?_⟩) ?_ ?_
                                                                  rotate_left
                                                                  · intro w'
                                                                    go_simp
                                                                    with_reducible rfl
                                                                  rotate_left
                                                                  · simp only [Act.put, List.setIfInBounds_toArray, List.set_cons_zero, List.set_cons_succ, i64_w, i32_w]
                                                                    rfl
                                                                  refine pure_ (i := 2) (N := some 115) (v := ?_) (a' := ?_) #[true, true, true, false, false, false, false, false, false, false, false, false, false, false, false, false, false, false, false] rfl rfl (any_of HT_.out (by kernel_rfl)) (fun _ _ _ h => h) (Or.inl ⟨by rfl, ?_⟩) ?_ ?_
                                                                  rotate_left
                                                                  · intro w'
                                                                    go_simp
                                                                    with_reducible rfl
                                                                  rotate_left
                                                                  · simp only [Act.put, List.setIfInBounds_toArray, List.set_cons_zero, List.set_cons_succ, i64_w, i32_w]
                                                                    rfl
                                                                  refine pure_ (i := 5) (N := some 118) (v := ?_) (a' := ?_) #[true, true, true, false, false, true, false, false, false, false, false, false, false, false, false, false, false, false, false] rfl rfl (any_of HT_.out (by kernel_rfl)) (fun _ _ _ h => h) (Or.inl ⟨by rfl, ?_⟩) ?_ ?_
                                                                  rotate_left
                                                                  · intro w'
                                                                    go_simp
                                                                    with_reducible rfl
                                                                  rotate_left
                                                                  · simp only [Act.put, List.setIfInBounds_toArray, List.set_cons_zero, List.set_cons_succ, i64_w, i32_w]
                                                                    rfl
                                                                  refine pure_ (i := 6) (N := some 119) (v := ?_) (a' := ?_) #[true, true, true, false, false, true, true, false, false, false, false, false, false, false, false, false, false, false, false] rfl rfl (any_of HT_.out (by kernel_rfl)) (fun _ _ _ h => h) (Or.inl ⟨by rfl, ?_⟩) ?_ ?_
                                                                  rotate_left
                                                                  · intro w'
                                                                    go_simp
                                                                    with_reducible rfl
                                                                  rotate_left
                                                                  · simp only [Act.put, List.setIfInBounds_toArray, List.set_cons_zero, List.set_cons_succ, i64_w, i32_w]
                                                                    rfl
                                                                  refine pure_ (i := 8) (N := some 121) (v := ?_) (a' := ?_) #[true, true, true, false, false, true, true, false, true, false, false, false, false, false, false, false, false, false, false] rfl rfl (any_of HT_.out (by kernel_rfl)) (fun _ _ _ h => h) (Or.inl ⟨by rfl, ?_⟩) ?_ ?_
                                                                  rotate_left
                                                                  · intro w'
                                                                    go_simp
                                                                    with_reducible rfl
                                                                  rotate_left
                                                                  · simp only [Act.put, List.setIfInBounds_toArray, List.set_cons_zero, List.set_cons_succ, i64_w, i32_w]
                                                                    rfl
                                                                  refine pure_ (i := 9) (N := some 122) (v := ?_) (a' := ?_) #[true, true, true, false, false, true, true, false, true, true, false, false, false, false, false, false, false, false, false] rfl rfl (any_of HT_.out (by kernel_rfl)) (fun _ _ _ h => h) (Or.inl ⟨by rfl, ?_⟩) ?_ ?_
                                                                  rotate_left
                                                                  · intro w'
                                                                    go_simp
                                                                    with_reducible rfl
                                                                  rotate_left
                                                                  · simp only [Act.put, List.setIfInBounds_toArray, List.set_cons_zero, List.set_cons_succ, i64_w, i32_w]
                                                                    rfl
                                                                  refine pure_ (i := 10) (N := some 123) (v := ?_) (a' := ?_) #[true, true, true, false, false, true, true, false, true, true, true, false, false, false, false, false, false, false, false] rfl rfl (any_of HT_.out (by kernel_rfl)) (fun _ _ _ h => h) (Or.inl ⟨by rfl, ?_⟩) ?_ ?_
                                                                  rotate_left
                                                                  · intro w'
                                                                    go_simp
                                                                    with_reducible rfl
                                                                  rotate_left
                                                                  · simp only [Act.put, List.setIfInBounds_toArray, List.set_cons_zero, List.set_cons_succ, i64_w, i32_w]
                                                                    rfl
                                                                  refine take_ (i := 7) (N := some 120) (v := ?_) (a' := ?_) #[true, true, true, false, false, true, true, true, true, true, true, false, false, false, false, false, false, false, false] rfl rfl (take_ofW HT_.out HW_.out (by kernel_rfl)) (fun _ _ _ h => h) (Or.inl ⟨by rfl, ?_⟩) hHeld ?_ ?_
                                                                  rotate_left
                                                                  · intro w' _
                                                                    go_simp
                                                                    with_reducible rfl
                                                                  rotate_left
                                                                  · simp only [Act.put, List.setIfInBounds_toArray, List.set_cons_zero, List.set_cons_succ, i64_w, i32_w]
                                                                    rfl
                                                                  refine take_ (i := 11) (N := some 124) (v := ?_) (a' := ?_) #[true, true, true, false, false, true, true, true, true, true, true, true, false, false, false, false, false, false, false] rfl rfl (take_ofW HT_.out HW_.out (by kernel_rfl)) (fun _ _ _ h => h) (Or.inl ⟨by rfl, ?_⟩) hHeld ?_ ?_
                                                                  rotate_left
                                                                  · intro w' _
                                                                    go_simp
                                                                    with_reducible rfl
                                                                  rotate_left
                                                                  · simp only [Act.put, List.setIfInBounds_toArray, List.set_cons_zero, List.set_cons_succ, i64_w, i32_w]
                                                                    rfl
                                                                  refine pure_ (i := 12) (N := some 125) (v := ?_) (a' := ?_) #[true, true, true, false, false, true, true, true, true, true, true, true, true, false, false, false, false, false, false] rfl rfl (any_of HT_.out (by kernel_rfl)) (fun _ _ _ h => h) (Or.inl ⟨by rfl, ?_⟩) ?_ ?_
                                                                  rotate_left
                                                                  · intro w'
                                                                    go_simp
                                                                    with_reducible rfl
                                                                  rotate_left
                                                                  · simp only [Act.put, List.setIfInBounds_toArray, List.set_cons_zero, List.set_cons_succ, i64_w, i32_w]
                                                                    rfl
                                                                  refine one_ (i := 3) (N := some 116) #[true, true, true, true, false, true, true, true, true, true, true, true, true, false, false, false, false, false, false] rfl rfl (one_of HT_.out (by kernel_rfl)) (by decide) (fun K hK => ?_)
                                                                  refine goes_ Try.func10 (by kernel_rfl) rfl #[.string (((a0.extract 0 ((ji17) : Int).toNat) ++ (strOfNums y109)) ++ (a0.extract ((ji59) : Int).toNat a0.size))] (by rfl) rfl rfl (by (try simp only [List.map_toArray, List.map_cons, List.map_nil]); first | done | (simp only [hji17, hji59]; rfl) | rfl | (simp only [List.length_drop, List.length_take]; rfl)) ?_
                                                                  with_reducible refine (I.isin_Check.calls kj62 (((a0.extract 0 ((ji17) : Int).toNat) ++ (strOfNums y109)) ++ (a0.extract ((ji59) : Int).toNat a0.size)) t113 _ A82.out).mono ?_
                                                                  rintro e w96 ⟨rfl, hb⟩
                                                                  refine ⟨_, rfl, ?_⟩
                                                                  have n0_ := Aside0.mk (below_step (by repeat (first | (with_reducible first | exact HB.out | apply below_alloc | apply pw_below_drewN | apply below_drew1) | exact HB.out)) hb)
                                                                  clear HB
                                                                  have HB := n0_
                                                                  clear n0_
                                                                  (try clear hb)
                                                                  (try clear hb2)
                                                                  (try clear hk)
                                                                  (try clear hi)
                                                                  refine hK.out _ _ trivial (fun hHeld => ?_)
                                                                  clear hK K
                                                                  refine norm_ (a' := ?_) ?_ ?_
                                                                  rotate_left
                                                                  · show Act.put _ (some 116) _ = _
                                                                    simp only [Act.put, List.setIfInBounds_toArray, List.set_cons_zero, List.set_cons_succ, i64_w, i32_w]
                                                                    rfl
                                                                  refine pure_ (i := 4) (N := some 117) (v := ?_) (a' := ?_) #[true, true, true, true, true, true, true, true, true, true, true, true, true, false, false, false, false, false, false] rfl rfl (any_of HT_.out (by kernel_rfl)) (fun _ _ _ h => h) (Or.inl ⟨by rfl, ?_⟩) ?_ ?_
                                                                  rotate_left
                                                                  · intro w'
                                                                    go_simp
                                                                    with_reducible rfl
                                                                  rotate_left
                                                                  · simp only [Act.put, List.setIfInBounds_toArray, List.set_cons_zero, List.set_cons_succ, i64_w, i32_w]
                                                                    rfl
                                                                  refine pure_ (i := 13) (N := some 126) (v := ?_) (a' := ?_) #[true, true, true, true, true, true, true, true, true, true, true, true, true, true, false, false, false, false, false] rfl rfl (any_of HT_.out (by kernel_rfl)) (fun _ _ _ h => h) (Or.inl ⟨by rfl, ?_⟩) ?_ ?_
                                                                  rotate_left
                                                                  · intro w'
                                                                    go_simp
                                                                    with_reducible rfl
                                                                  rotate_left
                                                                  · simp only [Act.put, List.setIfInBounds_toArray, List.set_cons_zero, List.set_cons_succ, i64_w, i32_w]
                                                                    rfl
                                                                  refine pure_ (i := 14) (N := some 127) (v := ?_) (a' := ?_) #[true, true, true, true, true, true, true, true, true, true, true, true, true, true, true, false, false, false, false] rfl rfl (any_of HT_.out (by kernel_rfl)) (fun _ _ _ h => h) (Or.inl ⟨by rfl, ?_⟩) ?_ ?_
                                                                  rotate_left
                                                                  · intro w'
                                                                    go_simp
                                                                    with_reducible rfl
                                                                  rotate_left
                                                                  · simp only [Act.put, List.setIfInBounds_toArray, List.set_cons_zero, List.set_cons_succ, i64_w, i32_w]
                                                                    rfl
                                                                  refine pure_ (i := 15) (N := some 128) (v := ?_) (a' := ?_) #[true, true, true, true, true, true, true, true, true, true, true, true, true, true, true, true, false, false, false] rfl rfl (any_of HT_.out (by kernel_rfl)) (fun _ _ _ h => h) (Or.inl ⟨by rfl, ?_⟩) ?_ ?_
                                                                  rotate_left
                                                                  · intro w'
                                                                    go_simp
                                                                    with_reducible rfl
                                                                  rotate_left
                                                                  · simp only [Act.put, List.setIfInBounds_toArray, List.set_cons_zero, List.set_cons_succ, i64_w, i32_w]
                                                                    rfl
                                                                  refine pure_ (i := 16) (N := some 129) (v := undef) (a' := ?_) #[true, true, true, true, true, true, true, true, true, true, true, true, true, true, true, true, true, false, false] rfl rfl (any_of HT_.out (by kernel_rfl)) (fun _ _ _ h => h) (Or.inr ⟨by rfl, rfl⟩) ?_ ?_
                                                                  rotate_left
                                                                  · simp only [Act.put, List.setIfInBounds_toArray, List.set_cons_zero, List.set_cons_succ, i64_w, i32_w]
                                                                    rfl
                                                                  refine pure_ (i := 17) (N := some 130) (v := ?_) (a' := ?_) #[true, true, true, true, true, true, true, true, true, true, true, true, true, true, true, true, true, true, false] rfl rfl (any_of HT_.out (by kernel_rfl)) (fun _ _ _ h => h) (Or.inl ⟨by rfl, ?_⟩) ?_ ?_
                                                                  rotate_left
                                                                  · intro w'
                                                                    go_simp
                                                                    with_reducible rfl
                                                                  rotate_left
                                                                  · simp only [Act.put, List.setIfInBounds_toArray, List.set_cons_zero, List.set_cons_succ, i64_w, i32_w]
                                                                    rfl
                                                                  refine pure_ (i := 18) (N := some 6) (v := ?_) (a' := ?_) #[true, true, true, true, true, true, true, true, true, true, true, true, true, true, true, true, true, true, true] rfl rfl (any_of HT_.out (by kernel_rfl)) (fun _ _ _ h => h) (Or.inl ⟨by rfl, ?_⟩) ?_ ?_
                                                                  rotate_left
                                                                  · intro w'
                                                                    go_simp
                                                                    with_reducible rfl
                                                                  rotate_left
                                                                  · simp only [Act.put, List.setIfInBounds_toArray, List.set_cons_zero, List.set_cons_succ, i64_w, i32_w]
                                                                    rfl
                                                                  refine done_ (done_of HT_.out (by kernel_rfl)) ?_
                                                                  try go_wp2
                                                                  go_ret
                                                                  exact ⟨by first | rfl | (simp [errW_none, errW_some] <;> rfl) | (simp only [← hji17, ← hji21, ← hji52, ← hji59, ← hji86]; first | rfl | (simp [errW_none, errW_some] <;> rfl)) | (simp [*, errW_none, errW_some] <;> rfl), by repeat (first | (with_reducible first | exact HB.out | apply below_alloc | apply pw_below_drewN | apply below_drew1) | exact HB.out)⟩
                                                              · rw [if_neg c88] at H
                                                                exact absurd H (by simp)
                                                            · rw [if_neg c87] at H
                                                              exact absurd H (by simp)
                                                          · rw [if_neg c84] at H
                                                            exact absurd H (by simp)
                                                        · rw [if_neg c83] at H
                                                          exact absurd H (by simp)
                                                · rw [if_neg c62] at H
                                                  exact absurd H (by simp)
                                              · rw [if_neg c61] at H
                                                exact absurd H (by simp)
                                            · rw [if_neg c60] at H
                                              exact absurd H (by simp)
                                          · rw [if_neg c58] at H
                                            exact absurd H (by simp)
                                        · rw [if_neg c56] at H
                                          exact absurd H (by simp)
                                      · rw [if_neg c54] at H
                                        exact absurd H (by simp)
                                    · rw [if_neg c53] at H
                                      exact absurd H (by simp)
                                  · rw [if_neg c51] at H
                                    exact absurd H (by simp)
                                · rw [if_neg c50] at H
                                  exact absurd H (by simp)
                      · rw [if_neg c26] at H
                        exact absurd H (by simp)
                    · rw [if_neg c24] at H
                      exact absurd H (by simp)
                  · rw [if_neg c23] at H
                    exact absurd H (by simp)
                · rw [if_neg c22] at H
                  exact absurd H (by simp)
              · rw [if_neg c20] at H
                exact absurd H (by simp)
            · rw [if_neg c19] at H
              exact absurd H (by simp)
          · rw [if_neg c18] at H
            exact absurd H (by simp)
  · rw [if_neg c5] at H
    have c5b0 : (t101 == 0) = false := beq_eq_false_iff_ne.mpr c5
    have c5b1 : (t101 != 0) = true := bne_iff_ne.mpr c5
    replace H := Option.bind_eq_some_iff.mp H
    obtain ⟨t102, A970, H⟩ := H
    replace H : (some t102) = some r := H
    have A97 := Aside0.mk A970
    clear A970
    obtain rfl := Option.some.inj H
    go_enter Try.func4, Try.ntmps4
    go_wp2_with (first | ((with_reducible refine gate_callee (f := 11) rfl ?_); refine goesL_ (some 13) rfl rfl Try.func11 (by kernel_rfl) rfl #[.string a0] rfl (by (try simp only [List.map_toArray, List.map_cons, List.map_nil]); first | done | rfl | (simp only [List.length_drop, List.length_take]; rfl)) ?_; (with_reducible refine (I.lombardref05_Check.calls k a0 t101 _ A4.out).mono ?_); rintro e w98 ⟨rfl, hb⟩; refine ⟨_, rfl, ?_⟩; have n0_ := Aside0.mk (below_step (by repeat (first | (with_reducible first | exact HB.out | apply below_alloc | apply pw_below_drewN | apply below_drew1) | exact HB.out)) hb); clear HB; have HB := n0_; clear n0_; (try clear hb); (try clear hb2); (try clear hk); (try clear hi)) | ((with_reducible refine gate_callee (f := 12) rfl ?_); refine goesL_ (some 15) rfl rfl Try.func12 (by kernel_rfl) rfl #[] rfl (by (try simp only [List.map_toArray, List.map_cons, List.map_nil]); first | done | rfl | (simp only [List.length_drop, List.length_take]; rfl)) ?_; (with_reducible refine (I.lombardlaw05_awake.calls k  t102 _ A97.out).mono ?_); rintro e w99 ⟨rfl, hb⟩; refine ⟨_, rfl, ?_⟩; have n0_ := Aside0.mk (below_step (by repeat (first | (with_reducible first | exact HB.out | apply below_alloc | apply pw_below_drewN | apply below_drew1) | exact HB.out)) hb); clear HB; have HB := n0_; clear n0_; (try clear hb); (try clear hb2); (try clear hk); (try clear hi)))
    go_ret
    exact ⟨by first | rfl | (simp [errW_none, errW_some] <;> rfl) | (simp [*, errW_none, errW_some] <;> rfl), by repeat (first | (with_reducible first | exact HB.out | apply below_alloc | apply pw_below_drewN | apply below_drew1) | exact HB.out)⟩

/-- THE ONE PURE STATEMENT of lombardlaw05_IsinSlips: yours. -/
def lombardlaw05_IsinSlips.Pure : Prop := ∀ (a0 : ByteArray) (a1 : Int) (a2 : Int), a0.size ≤ 140737488351232 → (Lit.int .u64 a1).wf = true → (Lit.int .u8 a2).wf = true → ∃ k, lombardlaw05_IsinSlips.f k a0 a1 a2 = some true
theorem lombardlaw05_IsinSlips.walk (P : lombardlaw05_IsinSlips.Pure) (a0 : ByteArray) (a1 : Int) (a2 : Int) (w : World) (w0 : a0.size ≤ 140737488351232) (w1 : (Lit.int .u64 a1).wf = true) (w2 : (Lit.int .u8 a2).wf = true) :
    Calls Try.prog 4 #[.string a0, .int .u64 a1, .int .u8 a2] w fun e w' => e = .returned (.bool true) ∧ Below w.heap.size w w' := by
  obtain ⟨k, h⟩ := P a0 a1 a2 w0 w1 w2
  refine (lombardlaw05_IsinSlips.calls k a0 a1 a2 true w h).mono ?_
  rintro e w' ⟨rfl, hd⟩
  exact ⟨rfl, hd⟩

end Go.Proofs.Ytabnpmojccepcaa.J
