/- Lean functions that answer as the Go functions do, and the proof of that, function by function, for every input at which the Lean function has an answer. Written by a program of this session (the print, turned: NOTES.md). -/
import Derived.Test.YtejfdiiennnjjaaFx0
import Derived.Test.YtejfdiiennnjjaaFx1
namespace Go.Proofs.Ytejfdiiennnjjaa.F
open Go.RowKit Go.Proofs.YtejfdiiennnjjaaW.PrintWords Go.Proofs.YtejfdiiennnjjaaW.PrintLast Go.Proofs.YtejfdiiennnjjaaW.PrintMore
attribute [local go_sem] max2_int min2_int max_two min_two max_three min_three max_four min_four   -- for this text's walks alone
set_option linter.unusedVariables false
set_option linter.unusedSimpArgs false

/-! ### lombardref07_Put: function 17 -/
def lombardref07_Put.f (k : Nat) (a0 : ByteArray) : Option (ByteArray × Int) := if (a0.size : Int) > 4096 then (some ((⟨#[]⟩ : ByteArray), 2)) else ((lombardref07_four.f (((a0.size : Int)) % 4294967296)).bind fun t117 => ((lombardref07_four.f (4294967295 - (((a0.size : Int)) % 4294967296))).bind fun t118 => (if t117.size + t118.size ≤ 9223372036854775807 then (if (t117 ++ t118).size + a0.size ≤ 9223372036854775807 then ((lombardref07_Sum.f k a0).bind fun t119 => ((lombardref07_four.f t119).bind fun t120 => (if ((t117 ++ t118) ++ a0).size + t120.size ≤ 9223372036854775807 then (some (((t117 ++ t118) ++ a0) ++ t120, 0)) else (none)))) else (none)) else (none))))
theorem lombardref07_Put.mono : ∀ a0 k, LeO (lombardref07_Put.f k a0) (lombardref07_Put.f (k + 1) a0) := by
  intro a0 k
  unfold lombardref07_Put.f
  repeat' first
      | (with_reducible exact lombardref07_Sum.mono _ _)
      | (with_reducible exact LeO.refl _)
      | (with_reducible exact LeO.none _)
      | (with_reducible refine LeO.ite ?_ ?_)
      | (with_reducible refine LeO.bind ?_ (fun _ => ?_))
      | exact lombardref07_Sum.mono _ _
      | exact LeO.none _
      | refine LeO.ite ?_ ?_
      | refine LeO.bind ?_ (fun _ => ?_)
set_option maxHeartbeats 8000000 in
set_option maxRecDepth 100000 in
theorem lombardref07_Put.calls (k : Nat) (a0 : ByteArray) (r1 : ByteArray) (r2 : Int) (w : World) (h : lombardref07_Put.f k a0 = some (r1, r2)) :
    Calls Try.prog 17 #[.string a0] w fun e w' => e = .returned (.tuple #[.string r1, .int .i64 r2]) ∧ Below w.heap.size w w' := by
  have HB := Aside0.mk (Below.refl w.heap.size w)
  have H : (if (a0.size : Int) > 4096 then (some ((⟨#[]⟩ : ByteArray), 2)) else ((lombardref07_four.f (((a0.size : Int)) % 4294967296)).bind fun t117 => ((lombardref07_four.f (4294967295 - (((a0.size : Int)) % 4294967296))).bind fun t118 => (if t117.size + t118.size ≤ 9223372036854775807 then (if (t117 ++ t118).size + a0.size ≤ 9223372036854775807 then ((lombardref07_Sum.f k a0).bind fun t119 => ((lombardref07_four.f t119).bind fun t120 => (if ((t117 ++ t118) ++ a0).size + t120.size ≤ 9223372036854775807 then (some (((t117 ++ t118) ++ a0) ++ t120, 0)) else (none)))) else (none)) else (none))))) = some (r1, r2) := h
  clear h
  by_cases c2 : (a0.size : Int) > 4096
  · rw [if_pos c2] at H
    have c2b0 : decide (4096 < (a0.size : Int)) = true := decide_eq_true c2
    have c2b1 : decide (4096 < a0.size) = true := decide_eq_true (by omega)
    clear c2
    simp only [Option.some.injEq, Prod.mk.injEq] at H
    obtain ⟨rfl, rfl⟩ := H
    go_enter Try.func17, Try.ntmps17
    go_wp2
    go_ret2
    exact ⟨by first | rfl | (simp [errW_none, errW_some] <;> rfl) | (simp [*, errW_none, errW_some] <;> rfl), by repeat (first | (with_reducible first | exact HB.out | apply below_alloc | apply pw_below_drewN | apply below_drew1) | exact HB.out)⟩
  · rw [if_neg c2] at H
    have c2b0 : decide (4096 < (a0.size : Int)) = false := decide_eq_false c2
    have c2b1 : decide (4096 < a0.size) = false := decide_eq_false (by omega)
    clear c2
    replace H := Option.bind_eq_some_iff.mp H
    obtain ⟨t117, A30, H⟩ := H
    replace H : ((lombardref07_four.f (4294967295 - (((a0.size : Int)) % 4294967296))).bind fun t118 => (if t117.size + t118.size ≤ 9223372036854775807 then (if (t117 ++ t118).size + a0.size ≤ 9223372036854775807 then ((lombardref07_Sum.f k a0).bind fun t119 => ((lombardref07_four.f t119).bind fun t120 => (if ((t117 ++ t118) ++ a0).size + t120.size ≤ 9223372036854775807 then (some (((t117 ++ t118) ++ a0) ++ t120, 0)) else (none)))) else (none)) else (none))) = some (r1, r2) := H
    have A3 := Aside0.mk A30
    clear A30
    replace H := Option.bind_eq_some_iff.mp H
    obtain ⟨t118, A40, H⟩ := H
    replace H : (if t117.size + t118.size ≤ 9223372036854775807 then (if (t117 ++ t118).size + a0.size ≤ 9223372036854775807 then ((lombardref07_Sum.f k a0).bind fun t119 => ((lombardref07_four.f t119).bind fun t120 => (if ((t117 ++ t118) ++ a0).size + t120.size ≤ 9223372036854775807 then (some (((t117 ++ t118) ++ a0) ++ t120, 0)) else (none)))) else (none)) else (none)) = some (r1, r2) := H
    have A4 := Aside0.mk A40
    clear A40
    by_cases c5 : t117.size + t118.size ≤ 9223372036854775807
    · rw [if_pos c5] at H
      have c5b0 := eq_true c5
      have c5b1 : decide (t117.size + t118.size ≤ 9223372036854775807) = true := decide_eq_true c5
      try have c5b2 : (9223372036854775807 < t117.size + t118.size) = False := eq_false (Nat.not_lt.2 c5)
      try (have c5b3 := Nat.not_lt.2 c5; simp [-Nat.not_lt, Go.ByteArray.size_mk'] at c5b3)
      by_cases c6 : (t117 ++ t118).size + a0.size ≤ 9223372036854775807
      · rw [if_pos c6] at H
        have c6b0 := eq_true c6
        have c6b1 : decide ((t117 ++ t118).size + a0.size ≤ 9223372036854775807) = true := decide_eq_true c6
        try have c6b2 : (9223372036854775807 < (t117 ++ t118).size + a0.size) = False := eq_false (Nat.not_lt.2 c6)
        try (have c6b3 := Nat.not_lt.2 c6; simp [-Nat.not_lt, Go.ByteArray.size_mk'] at c6b3)
        replace H := Option.bind_eq_some_iff.mp H
        obtain ⟨t119, A70, H⟩ := H
        replace H : ((lombardref07_four.f t119).bind fun t120 => (if ((t117 ++ t118) ++ a0).size + t120.size ≤ 9223372036854775807 then (some (((t117 ++ t118) ++ a0) ++ t120, 0)) else (none))) = some (r1, r2) := H
        have A7 := Aside0.mk A70
        clear A70
        replace H := Option.bind_eq_some_iff.mp H
        obtain ⟨t120, A80, H⟩ := H
        replace H : (if ((t117 ++ t118) ++ a0).size + t120.size ≤ 9223372036854775807 then (some (((t117 ++ t118) ++ a0) ++ t120, 0)) else (none)) = some (r1, r2) := H
        have A8 := Aside0.mk A80
        clear A80
        by_cases c9 : ((t117 ++ t118) ++ a0).size + t120.size ≤ 9223372036854775807
        · rw [if_pos c9] at H
          have c9b0 := eq_true c9
          have c9b1 : decide (((t117 ++ t118) ++ a0).size + t120.size ≤ 9223372036854775807) = true := decide_eq_true c9
          try have c9b2 : (9223372036854775807 < ((t117 ++ t118) ++ a0).size + t120.size) = False := eq_false (Nat.not_lt.2 c9)
          try (have c9b3 := Nat.not_lt.2 c9; simp [-Nat.not_lt, Go.ByteArray.size_mk'] at c9b3)
          simp only [Option.some.injEq, Prod.mk.injEq] at H
          obtain ⟨rfl, rfl⟩ := H
          go_enter Try.func17, Try.ntmps17
          go_wp2_with (first | ((with_reducible refine gate_callee (f := 56) rfl ?_); refine goesL_ (some 12) rfl rfl Try.func56 (by kernel_rfl) rfl #[.int .u32 (((a0.size : Int)) % 4294967296)] rfl (by (try simp only [List.map_toArray, List.map_cons, List.map_nil]); first | done | rfl | (simp only [List.length_drop, List.length_take]; rfl)) ?_; (with_reducible refine (lombardref07_four.calls (((a0.size : Int)) % 4294967296) t117 _ A3.out).mono ?_); rintro e w10 ⟨rfl, hb⟩; refine ⟨_, rfl, ?_⟩; have n0_ := Aside0.mk (below_step (by repeat (first | (with_reducible first | exact HB.out | apply below_alloc | apply pw_below_drewN | apply below_drew1) | exact HB.out)) hb); clear HB; have HB := n0_; clear n0_; (try clear hb); (try clear hb2); (try clear hk); (try clear hi)) | ((with_reducible refine gate_callee (f := 56) rfl ?_); refine goesL_ (some 15) rfl rfl Try.func56 (by kernel_rfl) rfl #[.int .u32 (4294967295 - (((a0.size : Int)) % 4294967296))] rfl (by (try simp only [List.map_toArray, List.map_cons, List.map_nil]); first | done | rfl | (simp only [List.length_drop, List.length_take]; rfl)) ?_; (with_reducible refine (lombardref07_four.calls (4294967295 - (((a0.size : Int)) % 4294967296)) t118 _ A4.out).mono ?_); rintro e w11 ⟨rfl, hb⟩; refine ⟨_, rfl, ?_⟩; have n0_ := Aside0.mk (below_step (by repeat (first | (with_reducible first | exact HB.out | apply below_alloc | apply pw_below_drewN | apply below_drew1) | exact HB.out)) hb); clear HB; have HB := n0_; clear n0_; (try clear hb); (try clear hb2); (try clear hk); (try clear hi)) | ((with_reducible refine gate_callee (f := 25) rfl ?_); refine goesL_ (some 20) rfl rfl Try.func25 (by kernel_rfl) rfl #[.string a0] rfl (by (try simp only [List.map_toArray, List.map_cons, List.map_nil]); first | done | rfl | (simp only [List.length_drop, List.length_take]; rfl)) ?_; (with_reducible refine (lombardref07_Sum.calls k a0 t119 _ A7.out).mono ?_); rintro e w' ⟨rfl, ⟨nd, rfl⟩⟩; refine ⟨_, rfl, ?_⟩) | ((with_reducible refine gate_callee (f := 56) rfl ?_); refine goesL_ (some 21) rfl rfl Try.func56 (by kernel_rfl) rfl #[.int .u32 t119] rfl (by (try simp only [List.map_toArray, List.map_cons, List.map_nil]); first | done | rfl | (simp only [List.length_drop, List.length_take]; rfl)) ?_; (with_reducible refine (lombardref07_four.calls t119 t120 _ A8.out).mono ?_); rintro e w12 ⟨rfl, hb⟩; refine ⟨_, rfl, ?_⟩; have n0_ := Aside0.mk (below_step (by repeat (first | (with_reducible first | exact HB.out | apply below_alloc | apply pw_below_drewN | apply below_drew1) | exact HB.out)) hb); clear HB; have HB := n0_; clear n0_; (try clear hb); (try clear hb2); (try clear hk); (try clear hi)))
          go_ret2
          exact ⟨by first | rfl | (simp [errW_none, errW_some] <;> rfl) | (simp [*, errW_none, errW_some] <;> rfl), by repeat (first | (with_reducible first | exact HB.out | apply below_alloc | apply pw_below_drewN | apply below_drew1) | exact HB.out)⟩
        · rw [if_neg c9] at H
          exact absurd H (by simp)
      · rw [if_neg c6] at H
        exact absurd H (by simp)
    · rw [if_neg c5] at H
      exact absurd H (by simp)

/-! ### lombardref07_Next: function 27 -/
mutual
def lombardref07_Next.l0 : Nat → ByteArray → Int → Option (ByteArray × Int × Int)
  | 0, _, _ => none
  | k + 1, x0, x5 => if x5 < 8 then (lombardref07_Next.j1 k x0 x5 (decide (x5 < (x0.size : Int)))) else (lombardref07_Next.j1 k x0 x5 false)
def lombardref07_Next.j1 : Nat → ByteArray → Int → Bool → Option (ByteArray × Int × Int)
  | 0, _, _, _ => none
  | k + 1, x0, x5, x16 => if x16 = true then (if 0 ≤ x5 then (if x5 < (x0.size : Int) then (if 0 ≤ (wrap64 (x5 - 4)) then (if (wrap64 (x5 - 4)) < (x0.size : Int) then (if (wrap64 ((wrap64 (bt x0 x5)) + (wrap64 (bt x0 (wrap64 (x5 - 4)))))) = 255 then (lombardref07_Next.l0 k x0 (wrap64 (x5 + 1))) else (some ((⟨#[]⟩ : ByteArray), 0, 15))) else (none)) else (none)) else (none)) else (none)) else (if (x0.size : Int) < 8 then (some ((⟨#[]⟩ : ByteArray), 0, 14)) else (if 0 < (x0.size : Int) then (if 1 < (x0.size : Int) then (if 2 < (x0.size : Int) then (if 3 < (x0.size : Int) then (if (wrap64 ((wrap64 ((wrap64 ((wrap64 (bt x0 0)) + (wrap64 (256 * (wrap64 (bt x0 1)))))) + (wrap64 (65536 * (wrap64 (bt x0 2)))))) + (wrap64 (16777216 * (wrap64 (bt x0 3)))))) > 4096 then (some ((⟨#[]⟩ : ByteArray), 0, 15)) else (if (x0.size : Int) < (wrap64 ((wrap64 ((wrap64 ((wrap64 ((wrap64 (bt x0 0)) + (wrap64 (256 * (wrap64 (bt x0 1)))))) + (wrap64 (65536 * (wrap64 (bt x0 2)))))) + (wrap64 (16777216 * (wrap64 (bt x0 3)))))) + 12)) then (some ((⟨#[]⟩ : ByteArray), 0, 14)) else (if 8 ≤ (wrap64 (8 + (wrap64 ((wrap64 ((wrap64 ((wrap64 (bt x0 0)) + (wrap64 (256 * (wrap64 (bt x0 1)))))) + (wrap64 (65536 * (wrap64 (bt x0 2)))))) + (wrap64 (16777216 * (wrap64 (bt x0 3)))))))) then (if (wrap64 (8 + (wrap64 ((wrap64 ((wrap64 ((wrap64 (bt x0 0)) + (wrap64 (256 * (wrap64 (bt x0 1)))))) + (wrap64 (65536 * (wrap64 (bt x0 2)))))) + (wrap64 (16777216 * (wrap64 (bt x0 3)))))))) ≤ (x0.size : Int) then ((lombardref07_Put.f k (x0.extract 8 ((wrap64 (8 + (wrap64 ((wrap64 ((wrap64 ((wrap64 (bt x0 0)) + (wrap64 (256 * (wrap64 (bt x0 1)))))) + (wrap64 (65536 * (wrap64 (bt x0 2)))))) + (wrap64 (16777216 * (wrap64 (bt x0 3)))))))) : Int).toNat)).bind fun bt121 => (if 0 ≤ (wrap64 ((wrap64 ((wrap64 ((wrap64 ((wrap64 (bt x0 0)) + (wrap64 (256 * (wrap64 (bt x0 1)))))) + (wrap64 (65536 * (wrap64 (bt x0 2)))))) + (wrap64 (16777216 * (wrap64 (bt x0 3)))))) + 12)) then (if (wrap64 ((wrap64 ((wrap64 ((wrap64 ((wrap64 (bt x0 0)) + (wrap64 (256 * (wrap64 (bt x0 1)))))) + (wrap64 (65536 * (wrap64 (bt x0 2)))))) + (wrap64 (16777216 * (wrap64 (bt x0 3)))))) + 12)) ≤ (x0.size : Int) then (if bt121.1.toList = (x0.extract 0 ((wrap64 ((wrap64 ((wrap64 ((wrap64 ((wrap64 (bt x0 0)) + (wrap64 (256 * (wrap64 (bt x0 1)))))) + (wrap64 (65536 * (wrap64 (bt x0 2)))))) + (wrap64 (16777216 * (wrap64 (bt x0 3)))))) + 12)) : Int).toNat).toList then (some (x0.extract 8 ((wrap64 (8 + (wrap64 ((wrap64 ((wrap64 ((wrap64 (bt x0 0)) + (wrap64 (256 * (wrap64 (bt x0 1)))))) + (wrap64 (65536 * (wrap64 (bt x0 2)))))) + (wrap64 (16777216 * (wrap64 (bt x0 3)))))))) : Int).toNat, wrap64 ((wrap64 ((wrap64 ((wrap64 ((wrap64 (bt x0 0)) + (wrap64 (256 * (wrap64 (bt x0 1)))))) + (wrap64 (65536 * (wrap64 (bt x0 2)))))) + (wrap64 (16777216 * (wrap64 (bt x0 3)))))) + 12), 0)) else (some ((⟨#[]⟩ : ByteArray), 0, 15))) else (none)) else (none))) else (none)) else (none)))) else (none)) else (none)) else (none)) else (none)))
end
def lombardref07_Next.f (k : Nat) (a0 : ByteArray) : Option (ByteArray × Int × Int) := lombardref07_Next.l0 k a0 4
theorem lombardref07_Next.mono_l : ∀ k, (∀ y0 y1, LeO (lombardref07_Next.l0 k y0 y1) (lombardref07_Next.l0 (k + 1) y0 y1)) ∧ (∀ y0 y1 y2, LeO (lombardref07_Next.j1 k y0 y1 y2) (lombardref07_Next.j1 (k + 1) y0 y1 y2))
  | 0 => ⟨fun _ _ r h => by simp [lombardref07_Next.l0] at h, fun _ _ _ r h => by simp [lombardref07_Next.j1] at h⟩
  | k + 1 => by
    obtain ⟨ih0, ih1⟩ := lombardref07_Next.mono_l k
    refine ⟨?_, ?_⟩
    · intro y0 y1
      unfold lombardref07_Next.l0
      repeat' first
      | (with_reducible exact ih0 _ _)
      | (with_reducible exact ih1 _ _ _)
      | (with_reducible exact lombardref07_Put.mono _ _)
      | (with_reducible exact LeO.refl _)
      | (with_reducible exact LeO.none _)
      | (with_reducible refine LeO.ite ?_ ?_)
      | (with_reducible refine LeO.bind ?_ (fun _ => ?_))
      | exact ih0 _ _
      | exact ih1 _ _ _
      | exact lombardref07_Put.mono _ _
      | exact LeO.none _
      | refine LeO.ite ?_ ?_
      | refine LeO.bind ?_ (fun _ => ?_)
    · intro y0 y1 y2
      unfold lombardref07_Next.j1
      repeat' first
      | (with_reducible exact ih0 _ _)
      | (with_reducible exact ih1 _ _ _)
      | (with_reducible exact lombardref07_Put.mono _ _)
      | (with_reducible exact LeO.refl _)
      | (with_reducible exact LeO.none _)
      | (with_reducible refine LeO.ite ?_ ?_)
      | (with_reducible refine LeO.bind ?_ (fun _ => ?_))
      | exact ih0 _ _
      | exact ih1 _ _ _
      | exact lombardref07_Put.mono _ _
      | exact LeO.none _
      | refine LeO.ite ?_ ?_
      | refine LeO.bind ?_ (fun _ => ?_)
theorem lombardref07_Next.mono : ∀ a0 k, LeO (lombardref07_Next.f k a0) (lombardref07_Next.f (k + 1) a0) := by
  intro a0 k
  obtain ⟨ih0, ih1⟩ := lombardref07_Next.mono_l k
  unfold lombardref07_Next.f
  repeat' first
      | (with_reducible exact ih0 _ _)
      | (with_reducible exact ih1 _ _ _)
      | (with_reducible exact lombardref07_Put.mono _ _)
      | (with_reducible exact LeO.refl _)
      | (with_reducible exact LeO.none _)
      | (with_reducible refine LeO.ite ?_ ?_)
      | (with_reducible refine LeO.bind ?_ (fun _ => ?_))
      | exact ih0 _ _
      | exact ih1 _ _ _
      | exact lombardref07_Put.mono _ _
      | exact LeO.none _
      | refine LeO.ite ?_ ?_
      | refine LeO.bind ?_ (fun _ => ?_)
set_option maxHeartbeats 8000000 in
set_option maxRecDepth 100000 in
theorem lombardref07_Next.calls (k : Nat) (a0 : ByteArray) (r1 : ByteArray) (r2 : Int) (r3 : Int) (w : World) (h : lombardref07_Next.f k a0 = some (r1, r2, r3)) :
    Calls Try.prog 27 #[.string a0] w fun e w' => e = .returned (.tuple #[.string r1, .int .i64 r2, .int .i64 r3]) ∧ Below w.heap.size w w' := by
  have HB := Aside0.mk (Below.refl w.heap.size w)
  have H : (lombardref07_Next.l0 k a0 4) = some (r1, r2, r3) := h
  clear h
  have H' := Aside0.mk H
  clear H
  go_enter Try.func27, Try.ntmps27
  go_wp2
  repeat (go_quiet (fail); try go_wp2)
  go_loopg [5] k (fun kq v5 w' => ∃ (x5_1 : Int), v5 = .int .i64 x5_1 ∧ Aside0 (lombardref07_Next.l0 kq a0 x5_1 = some (r1, r2, r3)) ∧ Aside0 (kq ≤ k) ∧ Aside0 (Below w.heap.size w w'))
  case atStart => exact ⟨(4), (by first | rfl | (simp; done) | (simp [*]; done)), H', ⟨Nat.le_refl _⟩, ⟨by repeat (first | (with_reducible first | exact HB.out | apply below_alloc | apply pw_below_drewN | apply below_drew1) | exact HB.out)⟩⟩
  case round =>
    clear H'
    obtain ⟨x5_1, rfl, HA, HK1, HB⟩ := hrel
    cases gk with
    | zero => exact absurd HA.out (by simp [lombardref07_Next.l0])
    | succ k1 =>
      have H := HA.out
      clear HA
      simp only [lombardref07_Next.l0] at H
      have HC2 := Aside0.mk H
      clear H
      go_upto_region 2 with (fail)
      repeat (go_quiet (fail); go_upto_region 2 with (fail))
      go_cut [16] (fun v16 wc => ∃ (kq : Nat) (x16_1 : Bool), v16 = .bool x16_1 ∧ Aside0 (lombardref07_Next.j1 kq a0 x5_1 x16_1 = some (r1, r2, r3)) ∧ Aside0 (kq ≤ k1) ∧ Aside0 (Below w.heap.size w wc))
      case first =>
        have H := HC2.out
        clear HC2
        by_cases c3 : x5_1 < 8
        · rw [if_pos c3] at H
          have c3b0 : decide (x5_1 < 8) = true := decide_eq_true c3
          clear c3
          (first | rw [c3b0] | (simp only [i64_w, i32_w]; rw [c3b0]) | skip)
          have H' := Aside0.mk H
          clear H
          go_wp2
          repeat (go_quiet (fail); try go_wp2)
          go_meet
          case rel => exact ⟨_, (decide (x5_1 < (a0.size : Int))), (by first | rfl | (simp; done) | (simp [*]; done)), H', ⟨by have := HK1.out; first | omega | exact Nat.le_refl _⟩, ⟨by repeat (first | (with_reducible first | exact HB.out | apply below_alloc | apply pw_below_drewN | apply below_drew1) | exact HB.out)⟩⟩
        · rw [if_neg c3] at H
          have c3b0 : decide (x5_1 < 8) = false := decide_eq_false c3
          clear c3
          (first | rw [c3b0] | (simp only [i64_w, i32_w]; rw [c3b0]) | skip)
          have H' := Aside0.mk H
          clear H
          go_wp2
          repeat (go_quiet (fail); try go_wp2)
          go_meet
          case rel => exact ⟨_, (false), (by first | rfl | (simp; done) | (simp [*]; done)), H', ⟨by have := HK1.out; first | omega | exact Nat.le_refl _⟩, ⟨by repeat (first | (with_reducible first | exact HB.out | apply below_alloc | apply pw_below_drewN | apply below_drew1) | exact HB.out)⟩⟩
      case rest =>
        clear HC2
        try clear c2
        try clear p2
        try clear c3
        try clear c3b0
        obtain ⟨kq, x16_1, rfl, HA, HJ1, HB⟩ := hcut
        cases kq with
        | zero => exact absurd HA.out (by simp [lombardref07_Next.j1])
        | succ kj1 =>
          have H := HA.out
          clear HA
          simp only [lombardref07_Next.j1] at H
          by_cases c4 : x16_1 = true
          · subst c4
            have H1 : (if 0 ≤ x5_1 then (if x5_1 < (a0.size : Int) then (if 0 ≤ (wrap64 (x5_1 - 4)) then (if (wrap64 (x5_1 - 4)) < (a0.size : Int) then (if (wrap64 ((wrap64 (bt a0 x5_1)) + (wrap64 (bt a0 (wrap64 (x5_1 - 4)))))) = 255 then (lombardref07_Next.l0 kj1 a0 (wrap64 (x5_1 + 1))) else (some ((⟨#[]⟩ : ByteArray), 0, 15))) else (none)) else (none)) else (none)) else (none)) = some (r1, r2, r3) := by rw [if_pos rfl] at H; exact H
            clear H
            have H := H1
            clear H1
            by_cases c5 : 0 ≤ x5_1
            · rw [if_pos c5] at H
              have c5b0 : decide (0 ≤ x5_1) = true := decide_eq_true c5
              clear c5
              by_cases c6 : x5_1 < (a0.size : Int)
              · rw [if_pos c6] at H
                have c6b0 : decide (x5_1 < (a0.size : Int)) = true := decide_eq_true c6
                clear c6
                obtain ⟨ji8, hji8⟩ : ∃ j_ : Int, (wrap64 (x5_1 - 4)) = j_ := ⟨_, rfl⟩
                replace H : (if 0 ≤ (ji8) then (if (ji8) < (a0.size : Int) then (if (wrap64 ((wrap64 (bt a0 x5_1)) + (wrap64 (bt a0 (ji8))))) = 255 then (lombardref07_Next.l0 kj1 a0 (wrap64 (x5_1 + 1))) else (some ((⟨#[]⟩ : ByteArray), 0, 15))) else (none)) else (none)) = some (r1, r2, r3) := by first | (rw [hji8] at H; exact H) | (simp only [hji8] at H ⊢; exact H)
                have hji8w : (IntKind.i64.wrap (x5_1 - 4)) = ji8 := (i64_w _).trans hji8
                by_cases c9 : 0 ≤ (ji8)
                · rw [if_pos c9] at H
                  have c9b0 : decide (0 ≤ (ji8)) = true := decide_eq_true c9
                  clear c9
                  by_cases c10 : (ji8) < (a0.size : Int)
                  · rw [if_pos c10] at H
                    have c10b0 : decide ((ji8) < (a0.size : Int)) = true := decide_eq_true c10
                    clear c10
                    by_cases c12 : (wrap64 ((wrap64 (bt a0 x5_1)) + (wrap64 (bt a0 (ji8))))) = 255
                    · rw [if_pos c12] at H
                      have c12b0 : ((wrap64 ((wrap64 (bt a0 x5_1)) + (wrap64 (bt a0 (ji8))))) == 255) = true := beq_iff_eq.mpr c12
                      have c12b1 : ((wrap64 ((wrap64 (bt a0 x5_1)) + (wrap64 (bt a0 (ji8))))) != 255) = false := bne_eq_false_iff_eq.mpr c12
                      clear c12
                      have H' := Aside0.mk H
                      clear H
                      have p7 : 0 ≤ (x5_1 : Int) := of_decide_eq_true (by first | (with_reducible assumption) | assumption)
                      have q7 : x5_1 < (a0.size : Int) := of_decide_eq_true (by first | (with_reducible assumption) | assumption)
                      have hx7 := bt_at a0 x5_1
                      replace p7 := eq_true p7
                      replace q7 := eq_true q7
                      have p11 : 0 ≤ ((ji8) : Int) := of_decide_eq_true (by first | (with_reducible assumption) | assumption)
                      have q11 : (ji8) < (a0.size : Int) := of_decide_eq_true (by first | (with_reducible assumption) | assumption)
                      have hx11 := bt_at a0 (ji8)
                      replace p11 := eq_true p11
                      replace q11 := eq_true q11
                      go_wp2
                      repeat (go_quiet (fail); try go_wp2)
                      go_roundg kj1
                      case measure => have := HK1.out; have := HJ1.out; omega
                      case rel => exact ⟨(wrap64 (x5_1 + 1)), (by first | rfl | (simp; done) | (simp [*]; done)), H', ⟨by have := HK1.out; have := HJ1.out; omega⟩, ⟨by repeat (first | (with_reducible first | exact HB.out | apply below_alloc | apply pw_below_drewN | apply below_drew1) | exact HB.out)⟩⟩
                    · rw [if_neg c12] at H
                      have c12b0 : ((wrap64 ((wrap64 (bt a0 x5_1)) + (wrap64 (bt a0 (ji8))))) == 255) = false := beq_eq_false_iff_ne.mpr c12
                      have c12b1 : ((wrap64 ((wrap64 (bt a0 x5_1)) + (wrap64 (bt a0 (ji8))))) != 255) = true := bne_iff_ne.mpr c12
                      simp only [Option.some.injEq, Prod.mk.injEq] at H
                      obtain ⟨rfl, rfl, rfl⟩ := H
                      have p7 : 0 ≤ (x5_1 : Int) := of_decide_eq_true (by first | (with_reducible assumption) | assumption)
                      have q7 : x5_1 < (a0.size : Int) := of_decide_eq_true (by first | (with_reducible assumption) | assumption)
                      have hx7 := bt_at a0 x5_1
                      replace p7 := eq_true p7
                      replace q7 := eq_true q7
                      have p11 : 0 ≤ ((ji8) : Int) := of_decide_eq_true (by first | (with_reducible assumption) | assumption)
                      have q11 : (ji8) < (a0.size : Int) := of_decide_eq_true (by first | (with_reducible assumption) | assumption)
                      have hx11 := bt_at a0 (ji8)
                      replace p11 := eq_true p11
                      replace q11 := eq_true q11
                      go_wp2
                      repeat (go_quiet (fail); try go_wp2)
                      go_ret3
                      exact ⟨by first | rfl | (simp [errW_none, errW_some] <;> rfl) | (simp only [← hji8]; first | rfl | (simp [errW_none, errW_some] <;> rfl)) | (simp [*, errW_none, errW_some] <;> rfl), by repeat (first | (with_reducible first | exact HB.out | apply below_alloc | apply pw_below_drewN | apply below_drew1) | exact HB.out)⟩
                  · rw [if_neg c10] at H
                    exact absurd H (by simp)
                · rw [if_neg c9] at H
                  exact absurd H (by simp)
              · rw [if_neg c6] at H
                exact absurd H (by simp)
            · rw [if_neg c5] at H
              exact absurd H (by simp)
          · replace c4 := Bool.eq_false_iff.mpr c4
            subst c4
            have H1 : (if (a0.size : Int) < 8 then (some ((⟨#[]⟩ : ByteArray), 0, 14)) else (if 0 < (a0.size : Int) then (if 1 < (a0.size : Int) then (if 2 < (a0.size : Int) then (if 3 < (a0.size : Int) then (if (wrap64 ((wrap64 ((wrap64 ((wrap64 (bt a0 0)) + (wrap64 (256 * (wrap64 (bt a0 1)))))) + (wrap64 (65536 * (wrap64 (bt a0 2)))))) + (wrap64 (16777216 * (wrap64 (bt a0 3)))))) > 4096 then (some ((⟨#[]⟩ : ByteArray), 0, 15)) else (if (a0.size : Int) < (wrap64 ((wrap64 ((wrap64 ((wrap64 ((wrap64 (bt a0 0)) + (wrap64 (256 * (wrap64 (bt a0 1)))))) + (wrap64 (65536 * (wrap64 (bt a0 2)))))) + (wrap64 (16777216 * (wrap64 (bt a0 3)))))) + 12)) then (some ((⟨#[]⟩ : ByteArray), 0, 14)) else (if 8 ≤ (wrap64 (8 + (wrap64 ((wrap64 ((wrap64 ((wrap64 (bt a0 0)) + (wrap64 (256 * (wrap64 (bt a0 1)))))) + (wrap64 (65536 * (wrap64 (bt a0 2)))))) + (wrap64 (16777216 * (wrap64 (bt a0 3)))))))) then (if (wrap64 (8 + (wrap64 ((wrap64 ((wrap64 ((wrap64 (bt a0 0)) + (wrap64 (256 * (wrap64 (bt a0 1)))))) + (wrap64 (65536 * (wrap64 (bt a0 2)))))) + (wrap64 (16777216 * (wrap64 (bt a0 3)))))))) ≤ (a0.size : Int) then ((lombardref07_Put.f kj1 (a0.extract 8 ((wrap64 (8 + (wrap64 ((wrap64 ((wrap64 ((wrap64 (bt a0 0)) + (wrap64 (256 * (wrap64 (bt a0 1)))))) + (wrap64 (65536 * (wrap64 (bt a0 2)))))) + (wrap64 (16777216 * (wrap64 (bt a0 3)))))))) : Int).toNat)).bind fun bt121 => (if 0 ≤ (wrap64 ((wrap64 ((wrap64 ((wrap64 ((wrap64 (bt a0 0)) + (wrap64 (256 * (wrap64 (bt a0 1)))))) + (wrap64 (65536 * (wrap64 (bt a0 2)))))) + (wrap64 (16777216 * (wrap64 (bt a0 3)))))) + 12)) then (if (wrap64 ((wrap64 ((wrap64 ((wrap64 ((wrap64 (bt a0 0)) + (wrap64 (256 * (wrap64 (bt a0 1)))))) + (wrap64 (65536 * (wrap64 (bt a0 2)))))) + (wrap64 (16777216 * (wrap64 (bt a0 3)))))) + 12)) ≤ (a0.size : Int) then (if bt121.1.toList = (a0.extract 0 ((wrap64 ((wrap64 ((wrap64 ((wrap64 ((wrap64 (bt a0 0)) + (wrap64 (256 * (wrap64 (bt a0 1)))))) + (wrap64 (65536 * (wrap64 (bt a0 2)))))) + (wrap64 (16777216 * (wrap64 (bt a0 3)))))) + 12)) : Int).toNat).toList then (some (a0.extract 8 ((wrap64 (8 + (wrap64 ((wrap64 ((wrap64 ((wrap64 (bt a0 0)) + (wrap64 (256 * (wrap64 (bt a0 1)))))) + (wrap64 (65536 * (wrap64 (bt a0 2)))))) + (wrap64 (16777216 * (wrap64 (bt a0 3)))))))) : Int).toNat, wrap64 ((wrap64 ((wrap64 ((wrap64 ((wrap64 (bt a0 0)) + (wrap64 (256 * (wrap64 (bt a0 1)))))) + (wrap64 (65536 * (wrap64 (bt a0 2)))))) + (wrap64 (16777216 * (wrap64 (bt a0 3)))))) + 12), 0)) else (some ((⟨#[]⟩ : ByteArray), 0, 15))) else (none)) else (none))) else (none)) else (none)))) else (none)) else (none)) else (none)) else (none))) = some (r1, r2, r3) := by rw [if_neg (show ¬ (false = true) by decide)] at H; exact H
            clear H
            have H := H1
            clear H1
            by_cases c13 : (a0.size : Int) < 8
            · rw [if_pos c13] at H
              have c13b0 : decide ((a0.size : Int) < 8) = true := decide_eq_true c13
              have c13b1 : decide (a0.size < 8) = true := decide_eq_true (by omega)
              clear c13
              simp only [Option.some.injEq, Prod.mk.injEq] at H
              obtain ⟨rfl, rfl, rfl⟩ := H
              go_wp2
              repeat (go_quiet (fail); try go_wp2)
              go_ret3
              exact ⟨by first | rfl | (simp [errW_none, errW_some] <;> rfl) | (simp [*, errW_none, errW_some] <;> rfl), by repeat (first | (with_reducible first | exact HB.out | apply below_alloc | apply pw_below_drewN | apply below_drew1) | exact HB.out)⟩
            · rw [if_neg c13] at H
              have c13b0 : decide ((a0.size : Int) < 8) = false := decide_eq_false c13
              have c13b1 : decide (a0.size < 8) = false := decide_eq_false (by omega)
              clear c13
              by_cases c14 : 0 < (a0.size : Int)
              · rw [if_pos c14] at H
                have c14b0 : decide (0 < (a0.size : Int)) = true := decide_eq_true c14
                have c14b1 : decide (0 < a0.size) = true := decide_eq_true (by omega)
                clear c14
                by_cases c16 : 1 < (a0.size : Int)
                · rw [if_pos c16] at H
                  have c16b0 : decide (1 < (a0.size : Int)) = true := decide_eq_true c16
                  have c16b1 : decide (1 < a0.size) = true := decide_eq_true (by omega)
                  clear c16
                  by_cases c18 : 2 < (a0.size : Int)
                  · rw [if_pos c18] at H
                    have c18b0 : decide (2 < (a0.size : Int)) = true := decide_eq_true c18
                    have c18b1 : decide (2 < a0.size) = true := decide_eq_true (by omega)
                    clear c18
                    by_cases c20 : 3 < (a0.size : Int)
                    · rw [if_pos c20] at H
                      have c20b0 : decide (3 < (a0.size : Int)) = true := decide_eq_true c20
                      have c20b1 : decide (3 < a0.size) = true := decide_eq_true (by omega)
                      clear c20
                      by_cases c22 : (wrap64 ((wrap64 ((wrap64 ((wrap64 (bt a0 0)) + (wrap64 (256 * (wrap64 (bt a0 1)))))) + (wrap64 (65536 * (wrap64 (bt a0 2)))))) + (wrap64 (16777216 * (wrap64 (bt a0 3)))))) > 4096
                      · rw [if_pos c22] at H
                        have c22b0 : decide (4096 < (wrap64 ((wrap64 ((wrap64 ((wrap64 (bt a0 0)) + (wrap64 (256 * (wrap64 (bt a0 1)))))) + (wrap64 (65536 * (wrap64 (bt a0 2)))))) + (wrap64 (16777216 * (wrap64 (bt a0 3))))))) = true := decide_eq_true c22
                        clear c22
                        simp only [Option.some.injEq, Prod.mk.injEq] at H
                        obtain ⟨rfl, rfl, rfl⟩ := H
                        have p15 : 0 ≤ (0 : Int) := (by omega)
                        have q15 : 0 < a0.size := (by have : (0 : Int) < (a0.size : Int) := of_decide_eq_true (by first | (with_reducible assumption) | assumption); omega)
                        have hx15 : ∀ h : 0 < a0.size, ((a0[0]'h).toNat : Int) = bt a0 0 := bt_at a0 0
                        clear p15
                        have qi15 : (0 < (a0.size : Int)) = True := eq_true (of_decide_eq_true (by first | (with_reducible assumption) | assumption))
                        replace q15 := eq_true q15
                        have p17 : 0 ≤ (1 : Int) := (by omega)
                        have q17 : 1 < a0.size := (by have : (1 : Int) < (a0.size : Int) := of_decide_eq_true (by first | (with_reducible assumption) | assumption); omega)
                        have hx17 : ∀ h : 1 < a0.size, ((a0[1]'h).toNat : Int) = bt a0 1 := bt_at a0 1
                        clear p17
                        have qi17 : (1 < (a0.size : Int)) = True := eq_true (of_decide_eq_true (by first | (with_reducible assumption) | assumption))
                        replace q17 := eq_true q17
                        have p19 : 0 ≤ (2 : Int) := (by omega)
                        have q19 : 2 < a0.size := (by have : (2 : Int) < (a0.size : Int) := of_decide_eq_true (by first | (with_reducible assumption) | assumption); omega)
                        have hx19 : ∀ h : 2 < a0.size, ((a0[2]'h).toNat : Int) = bt a0 2 := bt_at a0 2
                        clear p19
                        have qi19 : (2 < (a0.size : Int)) = True := eq_true (of_decide_eq_true (by first | (with_reducible assumption) | assumption))
                        replace q19 := eq_true q19
                        have p21 : 0 ≤ (3 : Int) := (by omega)
                        have q21 : 3 < a0.size := (by have : (3 : Int) < (a0.size : Int) := of_decide_eq_true (by first | (with_reducible assumption) | assumption); omega)
                        have hx21 : ∀ h : 3 < a0.size, ((a0[3]'h).toNat : Int) = bt a0 3 := bt_at a0 3
                        clear p21
                        have qi21 : (3 < (a0.size : Int)) = True := eq_true (of_decide_eq_true (by first | (with_reducible assumption) | assumption))
                        replace q21 := eq_true q21
                        go_wp2
                        repeat (go_quiet (fail); try go_wp2)
                        go_ret3
                        exact ⟨by first | rfl | (simp [errW_none, errW_some] <;> rfl) | (simp [*, errW_none, errW_some] <;> rfl), by repeat (first | (with_reducible first | exact HB.out | apply below_alloc | apply pw_below_drewN | apply below_drew1) | exact HB.out)⟩
                      · rw [if_neg c22] at H
                        have c22b0 : decide (4096 < (wrap64 ((wrap64 ((wrap64 ((wrap64 (bt a0 0)) + (wrap64 (256 * (wrap64 (bt a0 1)))))) + (wrap64 (65536 * (wrap64 (bt a0 2)))))) + (wrap64 (16777216 * (wrap64 (bt a0 3))))))) = false := decide_eq_false c22
                        clear c22
                        by_cases c23 : (a0.size : Int) < (wrap64 ((wrap64 ((wrap64 ((wrap64 ((wrap64 (bt a0 0)) + (wrap64 (256 * (wrap64 (bt a0 1)))))) + (wrap64 (65536 * (wrap64 (bt a0 2)))))) + (wrap64 (16777216 * (wrap64 (bt a0 3)))))) + 12))
                        · rw [if_pos c23] at H
                          have c23b0 : decide ((a0.size : Int) < (wrap64 ((wrap64 ((wrap64 ((wrap64 ((wrap64 (bt a0 0)) + (wrap64 (256 * (wrap64 (bt a0 1)))))) + (wrap64 (65536 * (wrap64 (bt a0 2)))))) + (wrap64 (16777216 * (wrap64 (bt a0 3)))))) + 12))) = true := decide_eq_true c23
                          clear c23
                          simp only [Option.some.injEq, Prod.mk.injEq] at H
                          obtain ⟨rfl, rfl, rfl⟩ := H
                          have p15 : 0 ≤ (0 : Int) := (by omega)
                          have q15 : 0 < a0.size := (by have : (0 : Int) < (a0.size : Int) := of_decide_eq_true (by first | (with_reducible assumption) | assumption); omega)
                          have hx15 : ∀ h : 0 < a0.size, ((a0[0]'h).toNat : Int) = bt a0 0 := bt_at a0 0
                          clear p15
                          have qi15 : (0 < (a0.size : Int)) = True := eq_true (of_decide_eq_true (by first | (with_reducible assumption) | assumption))
                          replace q15 := eq_true q15
                          have p17 : 0 ≤ (1 : Int) := (by omega)
                          have q17 : 1 < a0.size := (by have : (1 : Int) < (a0.size : Int) := of_decide_eq_true (by first | (with_reducible assumption) | assumption); omega)
                          have hx17 : ∀ h : 1 < a0.size, ((a0[1]'h).toNat : Int) = bt a0 1 := bt_at a0 1
                          clear p17
                          have qi17 : (1 < (a0.size : Int)) = True := eq_true (of_decide_eq_true (by first | (with_reducible assumption) | assumption))
                          replace q17 := eq_true q17
                          have p19 : 0 ≤ (2 : Int) := (by omega)
                          have q19 : 2 < a0.size := (by have : (2 : Int) < (a0.size : Int) := of_decide_eq_true (by first | (with_reducible assumption) | assumption); omega)
                          have hx19 : ∀ h : 2 < a0.size, ((a0[2]'h).toNat : Int) = bt a0 2 := bt_at a0 2
                          clear p19
                          have qi19 : (2 < (a0.size : Int)) = True := eq_true (of_decide_eq_true (by first | (with_reducible assumption) | assumption))
                          replace q19 := eq_true q19
                          have p21 : 0 ≤ (3 : Int) := (by omega)
                          have q21 : 3 < a0.size := (by have : (3 : Int) < (a0.size : Int) := of_decide_eq_true (by first | (with_reducible assumption) | assumption); omega)
                          have hx21 : ∀ h : 3 < a0.size, ((a0[3]'h).toNat : Int) = bt a0 3 := bt_at a0 3
                          clear p21
                          have qi21 : (3 < (a0.size : Int)) = True := eq_true (of_decide_eq_true (by first | (with_reducible assumption) | assumption))
                          replace q21 := eq_true q21
                          go_wp2
                          repeat (go_quiet (fail); try go_wp2)
                          go_ret3
                          exact ⟨by first | rfl | (simp [errW_none, errW_some] <;> rfl) | (simp [*, errW_none, errW_some] <;> rfl), by repeat (first | (with_reducible first | exact HB.out | apply below_alloc | apply pw_below_drewN | apply below_drew1) | exact HB.out)⟩
                        · rw [if_neg c23] at H
                          have c23b0 : decide ((a0.size : Int) < (wrap64 ((wrap64 ((wrap64 ((wrap64 ((wrap64 (bt a0 0)) + (wrap64 (256 * (wrap64 (bt a0 1)))))) + (wrap64 (65536 * (wrap64 (bt a0 2)))))) + (wrap64 (16777216 * (wrap64 (bt a0 3)))))) + 12))) = false := decide_eq_false c23
                          clear c23
                          by_cases c24 : 8 ≤ (wrap64 (8 + (wrap64 ((wrap64 ((wrap64 ((wrap64 (bt a0 0)) + (wrap64 (256 * (wrap64 (bt a0 1)))))) + (wrap64 (65536 * (wrap64 (bt a0 2)))))) + (wrap64 (16777216 * (wrap64 (bt a0 3))))))))
                          · rw [if_pos c24] at H
                            have c24b0 := eq_true c24
                            have c24b1 : decide (8 ≤ (wrap64 (8 + (wrap64 ((wrap64 ((wrap64 ((wrap64 (bt a0 0)) + (wrap64 (256 * (wrap64 (bt a0 1)))))) + (wrap64 (65536 * (wrap64 (bt a0 2)))))) + (wrap64 (16777216 * (wrap64 (bt a0 3))))))))) = true := decide_eq_true c24
                            by_cases c25 : (wrap64 (8 + (wrap64 ((wrap64 ((wrap64 ((wrap64 (bt a0 0)) + (wrap64 (256 * (wrap64 (bt a0 1)))))) + (wrap64 (65536 * (wrap64 (bt a0 2)))))) + (wrap64 (16777216 * (wrap64 (bt a0 3)))))))) ≤ (a0.size : Int)
                            · rw [if_pos c25] at H
                              have c25b0 := eq_true c25
                              have c25b1 : decide ((wrap64 (8 + (wrap64 ((wrap64 ((wrap64 ((wrap64 (bt a0 0)) + (wrap64 (256 * (wrap64 (bt a0 1)))))) + (wrap64 (65536 * (wrap64 (bt a0 2)))))) + (wrap64 (16777216 * (wrap64 (bt a0 3)))))))) ≤ (a0.size : Int)) = true := decide_eq_true c25
                              replace H := Option.bind_eq_some_iff.mp H
                              obtain ⟨⟨t121, t122⟩, A260, H⟩ := H
                              replace H : (if 0 ≤ (wrap64 ((wrap64 ((wrap64 ((wrap64 ((wrap64 (bt a0 0)) + (wrap64 (256 * (wrap64 (bt a0 1)))))) + (wrap64 (65536 * (wrap64 (bt a0 2)))))) + (wrap64 (16777216 * (wrap64 (bt a0 3)))))) + 12)) then (if (wrap64 ((wrap64 ((wrap64 ((wrap64 ((wrap64 (bt a0 0)) + (wrap64 (256 * (wrap64 (bt a0 1)))))) + (wrap64 (65536 * (wrap64 (bt a0 2)))))) + (wrap64 (16777216 * (wrap64 (bt a0 3)))))) + 12)) ≤ (a0.size : Int) then (if t121.toList = (a0.extract 0 ((wrap64 ((wrap64 ((wrap64 ((wrap64 ((wrap64 (bt a0 0)) + (wrap64 (256 * (wrap64 (bt a0 1)))))) + (wrap64 (65536 * (wrap64 (bt a0 2)))))) + (wrap64 (16777216 * (wrap64 (bt a0 3)))))) + 12)) : Int).toNat).toList then (some (a0.extract 8 ((wrap64 (8 + (wrap64 ((wrap64 ((wrap64 ((wrap64 (bt a0 0)) + (wrap64 (256 * (wrap64 (bt a0 1)))))) + (wrap64 (65536 * (wrap64 (bt a0 2)))))) + (wrap64 (16777216 * (wrap64 (bt a0 3)))))))) : Int).toNat, wrap64 ((wrap64 ((wrap64 ((wrap64 ((wrap64 (bt a0 0)) + (wrap64 (256 * (wrap64 (bt a0 1)))))) + (wrap64 (65536 * (wrap64 (bt a0 2)))))) + (wrap64 (16777216 * (wrap64 (bt a0 3)))))) + 12), 0)) else (some ((⟨#[]⟩ : ByteArray), 0, 15))) else (none)) else (none)) = some (r1, r2, r3) := H
                              have A26 := Aside0.mk A260
                              clear A260
                              obtain ⟨ji27, hji27⟩ : ∃ j_ : Int, (wrap64 ((wrap64 ((wrap64 ((wrap64 ((wrap64 (bt a0 0)) + (wrap64 (256 * (wrap64 (bt a0 1)))))) + (wrap64 (65536 * (wrap64 (bt a0 2)))))) + (wrap64 (16777216 * (wrap64 (bt a0 3)))))) + 12)) = j_ := ⟨_, rfl⟩
                              replace H : (if 0 ≤ (ji27) then (if (ji27) ≤ (a0.size : Int) then (if t121.toList = (a0.extract 0 ((ji27) : Int).toNat).toList then (some (a0.extract 8 ((wrap64 (8 + (wrap64 ((wrap64 ((wrap64 ((wrap64 (bt a0 0)) + (wrap64 (256 * (wrap64 (bt a0 1)))))) + (wrap64 (65536 * (wrap64 (bt a0 2)))))) + (wrap64 (16777216 * (wrap64 (bt a0 3)))))))) : Int).toNat, ji27, 0)) else (some ((⟨#[]⟩ : ByteArray), 0, 15))) else (none)) else (none)) = some (r1, r2, r3) := by first | (rw [hji27] at H; exact H) | (simp only [hji27] at H ⊢; exact H)
                              (try rw [hji27] at c23b0)
                              (try rw [hji27] at A26)
                              have hji27w : (IntKind.i64.wrap ((wrap64 ((wrap64 ((wrap64 ((wrap64 (bt a0 0)) + (wrap64 (256 * (wrap64 (bt a0 1)))))) + (wrap64 (65536 * (wrap64 (bt a0 2)))))) + (wrap64 (16777216 * (wrap64 (bt a0 3)))))) + 12)) = ji27 := (i64_w _).trans hji27
                              by_cases c28 : 0 ≤ (ji27)
                              · rw [if_pos c28] at H
                                have c28b0 := eq_true c28
                                have c28b1 : decide (0 ≤ (ji27)) = true := decide_eq_true c28
                                clear c28
                                by_cases c29 : (ji27) ≤ (a0.size : Int)
                                · rw [if_pos c29] at H
                                  have c29b0 := eq_true c29
                                  have c29b1 : decide ((ji27) ≤ (a0.size : Int)) = true := decide_eq_true c29
                                  clear c29
                                  by_cases c30 : t121.toList = (a0.extract 0 ((ji27) : Int).toNat).toList
                                  · rw [if_pos c30] at H
                                    have c30b0 : (t121.toList == (a0.extract 0 ((ji27) : Int).toNat).toList) = true := beq_iff_eq.mpr c30
                                    have c30b1 : (t121.toList != (a0.extract 0 ((ji27) : Int).toNat).toList) = false := bne_eq_false_iff_eq.mpr c30
                                    clear c30
                                    have c31b0 := eq_true (of_decide_eq_true (by first | (with_reducible assumption) | assumption) : 8 ≤ (wrap64 (8 + (wrap64 ((wrap64 ((wrap64 ((wrap64 (bt a0 0)) + (wrap64 (256 * (wrap64 (bt a0 1)))))) + (wrap64 (65536 * (wrap64 (bt a0 2)))))) + (wrap64 (16777216 * (wrap64 (bt a0 3)))))))))
                                    have c32b0 := eq_true (of_decide_eq_true (by first | (with_reducible assumption) | assumption) : (wrap64 (8 + (wrap64 ((wrap64 ((wrap64 ((wrap64 (bt a0 0)) + (wrap64 (256 * (wrap64 (bt a0 1)))))) + (wrap64 (65536 * (wrap64 (bt a0 2)))))) + (wrap64 (16777216 * (wrap64 (bt a0 3)))))))) ≤ (a0.size : Int))
                                    simp only [Option.some.injEq, Prod.mk.injEq] at H
                                    obtain ⟨rfl, rfl, rfl⟩ := H
                                    have p15 : 0 ≤ (0 : Int) := (by omega)
                                    have q15 : 0 < a0.size := (by have : (0 : Int) < (a0.size : Int) := of_decide_eq_true (by first | (with_reducible assumption) | assumption); omega)
                                    have hx15 : ∀ h : 0 < a0.size, ((a0[0]'h).toNat : Int) = bt a0 0 := bt_at a0 0
                                    clear p15
                                    have qi15 : (0 < (a0.size : Int)) = True := eq_true (of_decide_eq_true (by first | (with_reducible assumption) | assumption))
                                    replace q15 := eq_true q15
                                    have p17 : 0 ≤ (1 : Int) := (by omega)
                                    have q17 : 1 < a0.size := (by have : (1 : Int) < (a0.size : Int) := of_decide_eq_true (by first | (with_reducible assumption) | assumption); omega)
                                    have hx17 : ∀ h : 1 < a0.size, ((a0[1]'h).toNat : Int) = bt a0 1 := bt_at a0 1
                                    clear p17
                                    have qi17 : (1 < (a0.size : Int)) = True := eq_true (of_decide_eq_true (by first | (with_reducible assumption) | assumption))
                                    replace q17 := eq_true q17
                                    have p19 : 0 ≤ (2 : Int) := (by omega)
                                    have q19 : 2 < a0.size := (by have : (2 : Int) < (a0.size : Int) := of_decide_eq_true (by first | (with_reducible assumption) | assumption); omega)
                                    have hx19 : ∀ h : 2 < a0.size, ((a0[2]'h).toNat : Int) = bt a0 2 := bt_at a0 2
                                    clear p19
                                    have qi19 : (2 < (a0.size : Int)) = True := eq_true (of_decide_eq_true (by first | (with_reducible assumption) | assumption))
                                    replace q19 := eq_true q19
                                    have p21 : 0 ≤ (3 : Int) := (by omega)
                                    have q21 : 3 < a0.size := (by have : (3 : Int) < (a0.size : Int) := of_decide_eq_true (by first | (with_reducible assumption) | assumption); omega)
                                    have hx21 : ∀ h : 3 < a0.size, ((a0[3]'h).toNat : Int) = bt a0 3 := bt_at a0 3
                                    clear p21
                                    have qi21 : (3 < (a0.size : Int)) = True := eq_true (of_decide_eq_true (by first | (with_reducible assumption) | assumption))
                                    replace q21 := eq_true q21
                                    go_wp2_with (first | (go_at_call 17; (with_reducible refine (lombardref07_Put.calls kj1 (a0.extract 8 ((wrap64 (8 + (wrap64 ((wrap64 ((wrap64 ((wrap64 (bt a0 0)) + (wrap64 (256 * (wrap64 (bt a0 1)))))) + (wrap64 (65536 * (wrap64 (bt a0 2)))))) + (wrap64 (16777216 * (wrap64 (bt a0 3)))))))) : Int).toNat) t121 t122 _ A26.out).mono ?_); rintro e w33 ⟨rfl, hb⟩; have n0_ := Aside0.mk (below_step (by repeat (first | (with_reducible first | exact HB.out | apply below_alloc | apply pw_below_drewN | apply below_drew1) | exact HB.out)) hb); clear HB; have HB := n0_; clear n0_; (try clear hb); (try clear hb2); (try clear hk); (try clear hi)))
                                    repeat (go_quiet (first | (go_at_call 17; (with_reducible refine (lombardref07_Put.calls kj1 (a0.extract 8 ((wrap64 (8 + (wrap64 ((wrap64 ((wrap64 ((wrap64 (bt a0 0)) + (wrap64 (256 * (wrap64 (bt a0 1)))))) + (wrap64 (65536 * (wrap64 (bt a0 2)))))) + (wrap64 (16777216 * (wrap64 (bt a0 3)))))))) : Int).toNat) t121 t122 _ A26.out).mono ?_); rintro e w33 ⟨rfl, hb⟩; have n0_ := Aside0.mk (below_step (by repeat (first | (with_reducible first | exact HB.out | apply below_alloc | apply pw_below_drewN | apply below_drew1) | exact HB.out)) hb); clear HB; have HB := n0_; clear n0_; (try clear hb); (try clear hb2); (try clear hk); (try clear hi))); try go_wp2_with (first | (go_at_call 17; (with_reducible refine (lombardref07_Put.calls kj1 (a0.extract 8 ((wrap64 (8 + (wrap64 ((wrap64 ((wrap64 ((wrap64 (bt a0 0)) + (wrap64 (256 * (wrap64 (bt a0 1)))))) + (wrap64 (65536 * (wrap64 (bt a0 2)))))) + (wrap64 (16777216 * (wrap64 (bt a0 3)))))))) : Int).toNat) t121 t122 _ A26.out).mono ?_); rintro e w33 ⟨rfl, hb⟩; have n0_ := Aside0.mk (below_step (by repeat (first | (with_reducible first | exact HB.out | apply below_alloc | apply pw_below_drewN | apply below_drew1) | exact HB.out)) hb); clear HB; have HB := n0_; clear n0_; (try clear hb); (try clear hb2); (try clear hk); (try clear hi))))
                                    go_ret3
                                    exact ⟨by first | rfl | (simp [errW_none, errW_some] <;> rfl) | (simp only [← hji27]; first | rfl | (simp [errW_none, errW_some] <;> rfl)) | (simp [*, errW_none, errW_some] <;> rfl), by repeat (first | (with_reducible first | exact HB.out | apply below_alloc | apply pw_below_drewN | apply below_drew1) | exact HB.out)⟩
                                  · rw [if_neg c30] at H
                                    have c30b0 : (t121.toList == (a0.extract 0 ((ji27) : Int).toNat).toList) = false := beq_eq_false_iff_ne.mpr c30
                                    have c30b1 : (t121.toList != (a0.extract 0 ((ji27) : Int).toNat).toList) = true := bne_iff_ne.mpr c30
                                    simp only [Option.some.injEq, Prod.mk.injEq] at H
                                    obtain ⟨rfl, rfl, rfl⟩ := H
                                    have p15 : 0 ≤ (0 : Int) := (by omega)
                                    have q15 : 0 < a0.size := (by have : (0 : Int) < (a0.size : Int) := of_decide_eq_true (by first | (with_reducible assumption) | assumption); omega)
                                    have hx15 : ∀ h : 0 < a0.size, ((a0[0]'h).toNat : Int) = bt a0 0 := bt_at a0 0
                                    clear p15
                                    have qi15 : (0 < (a0.size : Int)) = True := eq_true (of_decide_eq_true (by first | (with_reducible assumption) | assumption))
                                    replace q15 := eq_true q15
                                    have p17 : 0 ≤ (1 : Int) := (by omega)
                                    have q17 : 1 < a0.size := (by have : (1 : Int) < (a0.size : Int) := of_decide_eq_true (by first | (with_reducible assumption) | assumption); omega)
                                    have hx17 : ∀ h : 1 < a0.size, ((a0[1]'h).toNat : Int) = bt a0 1 := bt_at a0 1
                                    clear p17
                                    have qi17 : (1 < (a0.size : Int)) = True := eq_true (of_decide_eq_true (by first | (with_reducible assumption) | assumption))
                                    replace q17 := eq_true q17
                                    have p19 : 0 ≤ (2 : Int) := (by omega)
                                    have q19 : 2 < a0.size := (by have : (2 : Int) < (a0.size : Int) := of_decide_eq_true (by first | (with_reducible assumption) | assumption); omega)
                                    have hx19 : ∀ h : 2 < a0.size, ((a0[2]'h).toNat : Int) = bt a0 2 := bt_at a0 2
                                    clear p19
                                    have qi19 : (2 < (a0.size : Int)) = True := eq_true (of_decide_eq_true (by first | (with_reducible assumption) | assumption))
                                    replace q19 := eq_true q19
                                    have p21 : 0 ≤ (3 : Int) := (by omega)
                                    have q21 : 3 < a0.size := (by have : (3 : Int) < (a0.size : Int) := of_decide_eq_true (by first | (with_reducible assumption) | assumption); omega)
                                    have hx21 : ∀ h : 3 < a0.size, ((a0[3]'h).toNat : Int) = bt a0 3 := bt_at a0 3
                                    clear p21
                                    have qi21 : (3 < (a0.size : Int)) = True := eq_true (of_decide_eq_true (by first | (with_reducible assumption) | assumption))
                                    replace q21 := eq_true q21
                                    go_wp2_with (first | (go_at_call 17; (with_reducible refine (lombardref07_Put.calls kj1 (a0.extract 8 ((wrap64 (8 + (wrap64 ((wrap64 ((wrap64 ((wrap64 (bt a0 0)) + (wrap64 (256 * (wrap64 (bt a0 1)))))) + (wrap64 (65536 * (wrap64 (bt a0 2)))))) + (wrap64 (16777216 * (wrap64 (bt a0 3)))))))) : Int).toNat) t121 t122 _ A26.out).mono ?_); rintro e w34 ⟨rfl, hb⟩; have n0_ := Aside0.mk (below_step (by repeat (first | (with_reducible first | exact HB.out | apply below_alloc | apply pw_below_drewN | apply below_drew1) | exact HB.out)) hb); clear HB; have HB := n0_; clear n0_; (try clear hb); (try clear hb2); (try clear hk); (try clear hi)))
                                    repeat (go_quiet (first | (go_at_call 17; (with_reducible refine (lombardref07_Put.calls kj1 (a0.extract 8 ((wrap64 (8 + (wrap64 ((wrap64 ((wrap64 ((wrap64 (bt a0 0)) + (wrap64 (256 * (wrap64 (bt a0 1)))))) + (wrap64 (65536 * (wrap64 (bt a0 2)))))) + (wrap64 (16777216 * (wrap64 (bt a0 3)))))))) : Int).toNat) t121 t122 _ A26.out).mono ?_); rintro e w34 ⟨rfl, hb⟩; have n0_ := Aside0.mk (below_step (by repeat (first | (with_reducible first | exact HB.out | apply below_alloc | apply pw_below_drewN | apply below_drew1) | exact HB.out)) hb); clear HB; have HB := n0_; clear n0_; (try clear hb); (try clear hb2); (try clear hk); (try clear hi))); try go_wp2_with (first | (go_at_call 17; (with_reducible refine (lombardref07_Put.calls kj1 (a0.extract 8 ((wrap64 (8 + (wrap64 ((wrap64 ((wrap64 ((wrap64 (bt a0 0)) + (wrap64 (256 * (wrap64 (bt a0 1)))))) + (wrap64 (65536 * (wrap64 (bt a0 2)))))) + (wrap64 (16777216 * (wrap64 (bt a0 3)))))))) : Int).toNat) t121 t122 _ A26.out).mono ?_); rintro e w34 ⟨rfl, hb⟩; have n0_ := Aside0.mk (below_step (by repeat (first | (with_reducible first | exact HB.out | apply below_alloc | apply pw_below_drewN | apply below_drew1) | exact HB.out)) hb); clear HB; have HB := n0_; clear n0_; (try clear hb); (try clear hb2); (try clear hk); (try clear hi))))
                                    go_ret3
                                    exact ⟨by first | rfl | (simp [errW_none, errW_some] <;> rfl) | (simp only [← hji27]; first | rfl | (simp [errW_none, errW_some] <;> rfl)) | (simp [*, errW_none, errW_some] <;> rfl), by repeat (first | (with_reducible first | exact HB.out | apply below_alloc | apply pw_below_drewN | apply below_drew1) | exact HB.out)⟩
                                · rw [if_neg c29] at H
                                  exact absurd H (by simp)
                              · rw [if_neg c28] at H
                                exact absurd H (by simp)
                            · rw [if_neg c25] at H
                              exact absurd H (by simp)
                          · rw [if_neg c24] at H
                            exact absurd H (by simp)
                    · rw [if_neg c20] at H
                      exact absurd H (by simp)
                  · rw [if_neg c18] at H
                    exact absurd H (by simp)
                · rw [if_neg c16] at H
                  exact absurd H (by simp)
              · rw [if_neg c14] at H
                exact absurd H (by simp)

/-! ### frame_Read: function 28 -/
def frame_Read.l0 : Nat → ByteArray → List ByteArray → Int → Option (List ByteArray × Int × Int)
  | 0, _, _, _ => none
  | k + 1, x0, x5, x6 => if x6 < (x0.size : Int) then (if 0 ≤ x6 then (if x6 ≤ (x0.size : Int) then ((frame_Next.f k (x0.extract (x6 : Int).toNat x0.size)).bind fun bt123 => (if bt123.2.2 = 0 then (if x5.length < 8796093022208 then (frame_Read.l0 k x0 (x5 ++ [bt123.1]) (wrap64 (x6 + bt123.2.1))) else (none)) else (some (x5, x6, bt123.2.2)))) else (none)) else (none)) else (some (x5, x6, 0))
def frame_Read.f (k : Nat) (a0 : ByteArray) : Option (List ByteArray × Int × Int) := frame_Read.l0 k a0 ([] : List ByteArray) 0
theorem frame_Read.mono_l : ∀ k, (∀ y0 y1 y2, LeO (frame_Read.l0 k y0 y1 y2) (frame_Read.l0 (k + 1) y0 y1 y2))
  | 0 => fun _ _ _ r h => by simp [frame_Read.l0] at h
  | k + 1 => by
    have ih0 := frame_Read.mono_l k
    · intro y0 y1 y2
      unfold frame_Read.l0
      repeat' first
      | (with_reducible exact ih0 _ _ _)
      | (with_reducible exact frame_Next.mono _ _)
      | (with_reducible exact LeO.refl _)
      | (with_reducible exact LeO.none _)
      | (with_reducible refine LeO.ite ?_ ?_)
      | (with_reducible refine LeO.bind ?_ (fun _ => ?_))
      | exact ih0 _ _ _
      | exact frame_Next.mono _ _
      | exact LeO.none _
      | refine LeO.ite ?_ ?_
      | refine LeO.bind ?_ (fun _ => ?_)
theorem frame_Read.mono : ∀ a0 k, LeO (frame_Read.f k a0) (frame_Read.f (k + 1) a0) := by
  intro a0 k
  have ih0 := frame_Read.mono_l k
  unfold frame_Read.f
  repeat' first
      | (with_reducible exact ih0 _ _ _)
      | (with_reducible exact frame_Next.mono _ _)
      | (with_reducible exact LeO.refl _)
      | (with_reducible exact LeO.none _)
      | (with_reducible refine LeO.ite ?_ ?_)
      | (with_reducible refine LeO.bind ?_ (fun _ => ?_))
      | exact ih0 _ _ _
      | exact frame_Next.mono _ _
      | exact LeO.none _
      | refine LeO.ite ?_ ?_
      | refine LeO.bind ?_ (fun _ => ?_)
set_option maxHeartbeats 8000000 in
set_option maxRecDepth 100000 in
theorem frame_Read.calls (k : Nat) (a0 : ByteArray) (r1 : List ByteArray) (r2 : Int) (r3 : Int) (w : World) (h : frame_Read.f k a0 = some (r1, r2, r3)) :
    Calls Try.prog 28 #[.string a0] w fun e w' => ∃ v0_ : Value, e = .returned (.tuple #[v0_, .int .i64 r2, .int .i64 r3]) ∧ Kd.R Kd.string 9 w' w.heap.size (fun _ => True) v0_ r1 ∧ Below w.heap.size w w' := by
  have HB := Aside0.mk (Below.refl w.heap.size w)
  have H : (frame_Read.l0 k a0 ([] : List ByteArray) 0) = some (r1, r2, r3) := h
  clear h
  have H' := Aside0.mk H
  clear H
  go_enter Try.func28, Try.ntmps28
  go_wp2
  go_loopg [5, 6] k (fun kq v5 v6 w' => ∃ (x5_1 : List ByteArray) (x6_1 : Int), v6 = .int .i64 x6_1 ∧ Aside0 (frame_Read.l0 kq a0 x5_1 x6_1 = some (r1, r2, r3)) ∧ Aside0 (kq ≤ k) ∧ Aside0 (Kd.R Kd.string 9 w' w.heap.size (fun _ => True) v5 x5_1) ∧ Aside0 (Below w.heap.size w w'))
  case atStart => exact ⟨(([] : List ByteArray)), (0), (by first | rfl | (simp; done) | (simp [*]; done)), H', ⟨Nat.le_refl _⟩, ⟨by first | exact Kd.R_nil _ _ _ _ _ | exact Kd.N_nil _ _ _ _ _ | exact Kd.V_nil _ _ _ _ _ | exact Kd.Q_nil _ _ _ _ _ | exact Kd.S_nil _ _ _ _ _⟩, ⟨by repeat (first | (with_reducible first | exact HB.out | apply below_alloc | apply pw_below_drewN | apply below_drew1) | exact HB.out)⟩⟩
  case round =>
    clear H'
    obtain ⟨x5_1, x6_1, rfl, HA, HK1, HO_5, HB⟩ := hrel
    cases gk with
    | zero => exact absurd HA.out (by simp [frame_Read.l0])
    | succ k1 =>
      have H := HA.out
      clear HA
      simp only [frame_Read.l0] at H
      by_cases c2 : x6_1 < (a0.size : Int)
      · rw [if_pos c2] at H
        have c2b0 : decide (x6_1 < (a0.size : Int)) = true := decide_eq_true c2
        clear c2
        by_cases c3 : 0 ≤ x6_1
        · rw [if_pos c3] at H
          have c3b0 := eq_true c3
          have c3b1 : decide (0 ≤ x6_1) = true := decide_eq_true c3
          clear c3
          by_cases c4 : x6_1 ≤ (a0.size : Int)
          · rw [if_pos c4] at H
            have c4b0 := eq_true c4
            have c4b1 : decide (x6_1 ≤ (a0.size : Int)) = true := decide_eq_true c4
            clear c4
            replace H := Option.bind_eq_some_iff.mp H
            obtain ⟨⟨t123, t124, t125⟩, A50, H⟩ := H
            replace H : (if t125 = 0 then (if x5_1.length < 8796093022208 then (frame_Read.l0 k1 a0 (x5_1 ++ [t123]) (wrap64 (x6_1 + t124))) else (none)) else (some (x5_1, x6_1, t125))) = some (r1, r2, r3) := H
            have A5 := Aside0.mk A50
            clear A50
            by_cases c6 : t125 = 0
            · rw [if_pos c6] at H
              have c6b0 : (t125 == 0) = true := beq_iff_eq.mpr c6
              have c6b1 : (t125 != 0) = false := bne_eq_false_iff_eq.mpr c6
              clear c6
              by_cases c7 : x5_1.length < 8796093022208
              · rw [if_pos c7] at H
                have LMc7 := Aside0.mk c7
                clear c7
                obtain ⟨y126, hy126⟩ : ∃ y_ : List ByteArray, y_ = (x5_1 ++ [t123]) := ⟨_, rfl⟩
                replace H : (frame_Read.l0 k1 a0 y126 (wrap64 (x6_1 + t124))) = some (r1, r2, r3) := by first | (rw [hy126]; with_reducible exact H) | (have H2_ := (Option.bind_some _ _).symm.trans H; rw [hy126]; with_reducible exact H2_) | (have H2_ := (Option.bind_some _ _).symm.trans H; with_reducible exact H2_) | with_reducible exact H | (rw [hy126]; exact H) | exact H
                have Ny126 := Aside0.mk hy126
                clear hy126
                have H' := Aside0.mk H
                clear H
                go_wp2_with (first | ((with_reducible refine gate_callee (f := 19) rfl ?_); refine goesL_ (some 18) rfl rfl Try.func19 (by kernel_rfl) rfl #[.string (a0.extract (x6_1 : Int).toNat a0.size)] rfl (by (try simp only [List.map_toArray, List.map_cons, List.map_nil]); first | done | rfl | (simp only [List.length_drop, List.length_take]; rfl)) ?_; (with_reducible refine (frame_Next.calls k1 (a0.extract (x6_1 : Int).toNat a0.size) t123 t124 t125 _ A5.out).mono ?_); rintro e w8 ⟨rfl, hb⟩; refine ⟨_, rfl, ?_⟩; have n0_ := Aside0.mk (Kd.R_below (by (with_reducible repeat (first | apply Kd.R_alloc | apply Kd.R_drewN | apply Kd.R_drew)); exact HO_5.out) hb); have n1_ := Aside0.mk (below_step (by repeat (first | (with_reducible first | exact HB.out | apply below_alloc | apply pw_below_drewN | apply below_drew1) | exact HB.out)) hb); clear HO_5; clear HB; have HO_5 := n0_; have HB := n1_; clear n0_ n1_; (try clear hb); (try clear hb2); (try clear hk); (try clear hi)) | ((with_reducible refine gate_builtin (b := .append) (xs := #[.tmp 27, .tmp 29]) rfl ?_); at_builtin; refine Kd.R_append Kd.string (w0 := w) w.heap.size rfl (.tmp 27) (.tmp 29) 32 9 (.string ⟨#[]⟩) 16 rfl Try.underlying32 info9 rfl (by decide) (by omega) u5 x5_1 t123 [.string t123] (fun _ => True) (fun _ => False) rfl rfl ?aP (fun _ hk => hk.elim) ?aF ?aO ?aB ?aS ?aL ?_; (case aP => exact rfl); (case aB => exact (by repeat (first | (with_reducible first | exact HB.out | apply below_alloc | apply pw_below_drewN | apply below_drew1) | exact HB.out))); (case aF => exact (fun _ _ => trivial)); (case aO => exact (by (with_reducible repeat (first | apply Kd.R_alloc | apply Kd.R_drewN | apply Kd.R_drew)); exact HO_5.out)); (case aS => exact (below_size (by repeat (first | (with_reducible first | exact HB.out | apply below_alloc | apply pw_below_drewN | apply below_drew1) | exact HB.out)))); (case aL => have := LMc7.out; omega); intro v127 w9 ho hb hg hat; rw [← Ny126.out] at ho; have n0_ := Aside0.mk (hb); have n1_ := Aside0.mk (ho); clear HB; clear HO_5; have HB := n0_; have HO128 := n1_; clear n0_ n1_; clear ho hb hg hat))
                go_roundg k1
                case measure => have := HK1.out; omega
                case rel => exact ⟨(y126), (wrap64 (x6_1 + t124)), (by first | rfl | (simp; done) | (simp [*]; done)), H', ⟨by have := HK1.out; omega⟩, ⟨by (with_reducible repeat (first | apply Kd.R_alloc | apply Kd.R_drewN | apply Kd.R_drew)); exact HO128.out⟩, ⟨by repeat (first | (with_reducible first | exact HB.out | apply below_alloc | apply pw_below_drewN | apply below_drew1) | exact HB.out)⟩⟩
              · rw [if_neg c7] at H
                exact absurd H (by simp)
            · rw [if_neg c6] at H
              have c6b0 : (t125 == 0) = false := beq_eq_false_iff_ne.mpr c6
              have c6b1 : (t125 != 0) = true := bne_iff_ne.mpr c6
              simp only [Option.some.injEq, Prod.mk.injEq] at H
              obtain ⟨rfl, rfl, rfl⟩ := H
              go_wp2_with (first | ((with_reducible refine gate_callee (f := 19) rfl ?_); refine goesL_ (some 18) rfl rfl Try.func19 (by kernel_rfl) rfl #[.string (a0.extract (x6_1 : Int).toNat a0.size)] rfl (by (try simp only [List.map_toArray, List.map_cons, List.map_nil]); first | done | rfl | (simp only [List.length_drop, List.length_take]; rfl)) ?_; (with_reducible refine (frame_Next.calls k1 (a0.extract (x6_1 : Int).toNat a0.size) t123 t124 t125 _ A5.out).mono ?_); rintro e w10 ⟨rfl, hb⟩; refine ⟨_, rfl, ?_⟩; have n0_ := Aside0.mk (Kd.R_below (by (with_reducible repeat (first | apply Kd.R_alloc | apply Kd.R_drewN | apply Kd.R_drew)); exact HO_5.out) hb); have n1_ := Aside0.mk (below_step (by repeat (first | (with_reducible first | exact HB.out | apply below_alloc | apply pw_below_drewN | apply below_drew1) | exact HB.out)) hb); clear HO_5; clear HB; have HO_5 := n0_; have HB := n1_; clear n0_ n1_; (try clear hb); (try clear hb2); (try clear hk); (try clear hi)))
              go_ret3
              exact ⟨_, by first | rfl | (simp [errW_none, errW_some] <;> rfl) | (simp [*, errW_none, errW_some] <;> rfl), by (with_reducible repeat (first | apply Kd.R_alloc | apply Kd.R_drewN | apply Kd.R_drew)); exact HO_5.out, by repeat (first | (with_reducible first | exact HB.out | apply below_alloc | apply pw_below_drewN | apply below_drew1) | exact HB.out)⟩
          · rw [if_neg c4] at H
            exact absurd H (by simp)
        · rw [if_neg c3] at H
          exact absurd H (by simp)
      · rw [if_neg c2] at H
        have c2b0 : decide (x6_1 < (a0.size : Int)) = false := decide_eq_false c2
        clear c2
        simp only [Option.some.injEq, Prod.mk.injEq] at H
        obtain ⟨rfl, rfl, rfl⟩ := H
        go_wp2
        go_ret3
        exact ⟨_, by first | rfl | (simp [errW_none, errW_some] <;> rfl) | (simp [*, errW_none, errW_some] <;> rfl), by (with_reducible repeat (first | apply Kd.R_alloc | apply Kd.R_drewN | apply Kd.R_drew)); exact HO_5.out, by repeat (first | (with_reducible first | exact HB.out | apply below_alloc | apply pw_below_drewN | apply below_drew1) | exact HB.out)⟩

/-! ### lombardref07_Read: function 29 -/
def lombardref07_Read.l0 : Nat → ByteArray → List ByteArray → Int → Option (List ByteArray × Int × Int)
  | 0, _, _, _ => none
  | k + 1, x0, x5, x6 => if x6 < (x0.size : Int) then (if 0 ≤ x6 then (if x6 ≤ (x0.size : Int) then ((lombardref07_Next.f k (x0.extract (x6 : Int).toNat x0.size)).bind fun bt129 => (if bt129.2.2 = 0 then (if x5.length < 8796093022208 then (lombardref07_Read.l0 k x0 (x5 ++ [bt129.1]) (wrap64 (x6 + bt129.2.1))) else (none)) else (some (x5, x6, bt129.2.2)))) else (none)) else (none)) else (some (x5, x6, 0))
def lombardref07_Read.f (k : Nat) (a0 : ByteArray) : Option (List ByteArray × Int × Int) := lombardref07_Read.l0 k a0 ([] : List ByteArray) 0
theorem lombardref07_Read.mono_l : ∀ k, (∀ y0 y1 y2, LeO (lombardref07_Read.l0 k y0 y1 y2) (lombardref07_Read.l0 (k + 1) y0 y1 y2))
  | 0 => fun _ _ _ r h => by simp [lombardref07_Read.l0] at h
  | k + 1 => by
    have ih0 := lombardref07_Read.mono_l k
    · intro y0 y1 y2
      unfold lombardref07_Read.l0
      repeat' first
      | (with_reducible exact ih0 _ _ _)
      | (with_reducible exact lombardref07_Next.mono _ _)
      | (with_reducible exact LeO.refl _)
      | (with_reducible exact LeO.none _)
      | (with_reducible refine LeO.ite ?_ ?_)
      | (with_reducible refine LeO.bind ?_ (fun _ => ?_))
      | exact ih0 _ _ _
      | exact lombardref07_Next.mono _ _
      | exact LeO.none _
      | refine LeO.ite ?_ ?_
      | refine LeO.bind ?_ (fun _ => ?_)
theorem lombardref07_Read.mono : ∀ a0 k, LeO (lombardref07_Read.f k a0) (lombardref07_Read.f (k + 1) a0) := by
  intro a0 k
  have ih0 := lombardref07_Read.mono_l k
  unfold lombardref07_Read.f
  repeat' first
      | (with_reducible exact ih0 _ _ _)
      | (with_reducible exact lombardref07_Next.mono _ _)
      | (with_reducible exact LeO.refl _)
      | (with_reducible exact LeO.none _)
      | (with_reducible refine LeO.ite ?_ ?_)
      | (with_reducible refine LeO.bind ?_ (fun _ => ?_))
      | exact ih0 _ _ _
      | exact lombardref07_Next.mono _ _
      | exact LeO.none _
      | refine LeO.ite ?_ ?_
      | refine LeO.bind ?_ (fun _ => ?_)
set_option maxHeartbeats 8000000 in
set_option maxRecDepth 100000 in
theorem lombardref07_Read.calls (k : Nat) (a0 : ByteArray) (r1 : List ByteArray) (r2 : Int) (r3 : Int) (w : World) (h : lombardref07_Read.f k a0 = some (r1, r2, r3)) :
    Calls Try.prog 29 #[.string a0] w fun e w' => ∃ v0_ : Value, e = .returned (.tuple #[v0_, .int .i64 r2, .int .i64 r3]) ∧ Kd.R Kd.string 9 w' w.heap.size (fun _ => True) v0_ r1 ∧ Below w.heap.size w w' := by
  have HB := Aside0.mk (Below.refl w.heap.size w)
  have H : (lombardref07_Read.l0 k a0 ([] : List ByteArray) 0) = some (r1, r2, r3) := h
  clear h
  have H' := Aside0.mk H
  clear H
  go_enter Try.func29, Try.ntmps29
  go_wp2
  go_loopg [5, 6] k (fun kq v5 v6 w' => ∃ (x5_1 : List ByteArray) (x6_1 : Int), v6 = .int .i64 x6_1 ∧ Aside0 (lombardref07_Read.l0 kq a0 x5_1 x6_1 = some (r1, r2, r3)) ∧ Aside0 (kq ≤ k) ∧ Aside0 (Kd.R Kd.string 9 w' w.heap.size (fun _ => True) v5 x5_1) ∧ Aside0 (Below w.heap.size w w'))
  case atStart => exact ⟨(([] : List ByteArray)), (0), (by first | rfl | (simp; done) | (simp [*]; done)), H', ⟨Nat.le_refl _⟩, ⟨by first | exact Kd.R_nil _ _ _ _ _ | exact Kd.N_nil _ _ _ _ _ | exact Kd.V_nil _ _ _ _ _ | exact Kd.Q_nil _ _ _ _ _ | exact Kd.S_nil _ _ _ _ _⟩, ⟨by repeat (first | (with_reducible first | exact HB.out | apply below_alloc | apply pw_below_drewN | apply below_drew1) | exact HB.out)⟩⟩
  case round =>
    clear H'
    obtain ⟨x5_1, x6_1, rfl, HA, HK1, HO_5, HB⟩ := hrel
    cases gk with
    | zero => exact absurd HA.out (by simp [lombardref07_Read.l0])
    | succ k1 =>
      have H := HA.out
      clear HA
      simp only [lombardref07_Read.l0] at H
      by_cases c2 : x6_1 < (a0.size : Int)
      · rw [if_pos c2] at H
        have c2b0 : decide (x6_1 < (a0.size : Int)) = true := decide_eq_true c2
        clear c2
        by_cases c3 : 0 ≤ x6_1
        · rw [if_pos c3] at H
          have c3b0 := eq_true c3
          have c3b1 : decide (0 ≤ x6_1) = true := decide_eq_true c3
          clear c3
          by_cases c4 : x6_1 ≤ (a0.size : Int)
          · rw [if_pos c4] at H
            have c4b0 := eq_true c4
            have c4b1 : decide (x6_1 ≤ (a0.size : Int)) = true := decide_eq_true c4
            clear c4
            replace H := Option.bind_eq_some_iff.mp H
            obtain ⟨⟨t129, t130, t131⟩, A50, H⟩ := H
            replace H : (if t131 = 0 then (if x5_1.length < 8796093022208 then (lombardref07_Read.l0 k1 a0 (x5_1 ++ [t129]) (wrap64 (x6_1 + t130))) else (none)) else (some (x5_1, x6_1, t131))) = some (r1, r2, r3) := H
            have A5 := Aside0.mk A50
            clear A50
            by_cases c6 : t131 = 0
            · rw [if_pos c6] at H
              have c6b0 : (t131 == 0) = true := beq_iff_eq.mpr c6
              have c6b1 : (t131 != 0) = false := bne_eq_false_iff_eq.mpr c6
              clear c6
              by_cases c7 : x5_1.length < 8796093022208
              · rw [if_pos c7] at H
                have LMc7 := Aside0.mk c7
                clear c7
                obtain ⟨y132, hy132⟩ : ∃ y_ : List ByteArray, y_ = (x5_1 ++ [t129]) := ⟨_, rfl⟩
                replace H : (lombardref07_Read.l0 k1 a0 y132 (wrap64 (x6_1 + t130))) = some (r1, r2, r3) := by first | (rw [hy132]; with_reducible exact H) | (have H2_ := (Option.bind_some _ _).symm.trans H; rw [hy132]; with_reducible exact H2_) | (have H2_ := (Option.bind_some _ _).symm.trans H; with_reducible exact H2_) | with_reducible exact H | (rw [hy132]; exact H) | exact H
                have Ny132 := Aside0.mk hy132
                clear hy132
                have H' := Aside0.mk H
                clear H
                go_wp2_with (first | ((with_reducible refine gate_callee (f := 27) rfl ?_); refine goesL_ (some 18) rfl rfl Try.func27 (by kernel_rfl) rfl #[.string (a0.extract (x6_1 : Int).toNat a0.size)] rfl (by (try simp only [List.map_toArray, List.map_cons, List.map_nil]); first | done | rfl | (simp only [List.length_drop, List.length_take]; rfl)) ?_; (with_reducible refine (lombardref07_Next.calls k1 (a0.extract (x6_1 : Int).toNat a0.size) t129 t130 t131 _ A5.out).mono ?_); rintro e w8 ⟨rfl, hb⟩; refine ⟨_, rfl, ?_⟩; have n0_ := Aside0.mk (Kd.R_below (by (with_reducible repeat (first | apply Kd.R_alloc | apply Kd.R_drewN | apply Kd.R_drew)); exact HO_5.out) hb); have n1_ := Aside0.mk (below_step (by repeat (first | (with_reducible first | exact HB.out | apply below_alloc | apply pw_below_drewN | apply below_drew1) | exact HB.out)) hb); clear HO_5; clear HB; have HO_5 := n0_; have HB := n1_; clear n0_ n1_; (try clear hb); (try clear hb2); (try clear hk); (try clear hi)) | ((with_reducible refine gate_builtin (b := .append) (xs := #[.tmp 27, .tmp 29]) rfl ?_); at_builtin; refine Kd.R_append Kd.string (w0 := w) w.heap.size rfl (.tmp 27) (.tmp 29) 32 9 (.string ⟨#[]⟩) 16 rfl Try.underlying32 info9 rfl (by decide) (by omega) u5 x5_1 t129 [.string t129] (fun _ => True) (fun _ => False) rfl rfl ?aP (fun _ hk => hk.elim) ?aF ?aO ?aB ?aS ?aL ?_; (case aP => exact rfl); (case aB => exact (by repeat (first | (with_reducible first | exact HB.out | apply below_alloc | apply pw_below_drewN | apply below_drew1) | exact HB.out))); (case aF => exact (fun _ _ => trivial)); (case aO => exact (by (with_reducible repeat (first | apply Kd.R_alloc | apply Kd.R_drewN | apply Kd.R_drew)); exact HO_5.out)); (case aS => exact (below_size (by repeat (first | (with_reducible first | exact HB.out | apply below_alloc | apply pw_below_drewN | apply below_drew1) | exact HB.out)))); (case aL => have := LMc7.out; omega); intro v133 w9 ho hb hg hat; rw [← Ny132.out] at ho; have n0_ := Aside0.mk (hb); have n1_ := Aside0.mk (ho); clear HB; clear HO_5; have HB := n0_; have HO134 := n1_; clear n0_ n1_; clear ho hb hg hat))
                go_roundg k1
                case measure => have := HK1.out; omega
                case rel => exact ⟨(y132), (wrap64 (x6_1 + t130)), (by first | rfl | (simp; done) | (simp [*]; done)), H', ⟨by have := HK1.out; omega⟩, ⟨by (with_reducible repeat (first | apply Kd.R_alloc | apply Kd.R_drewN | apply Kd.R_drew)); exact HO134.out⟩, ⟨by repeat (first | (with_reducible first | exact HB.out | apply below_alloc | apply pw_below_drewN | apply below_drew1) | exact HB.out)⟩⟩
              · rw [if_neg c7] at H
                exact absurd H (by simp)
            · rw [if_neg c6] at H
              have c6b0 : (t131 == 0) = false := beq_eq_false_iff_ne.mpr c6
              have c6b1 : (t131 != 0) = true := bne_iff_ne.mpr c6
              simp only [Option.some.injEq, Prod.mk.injEq] at H
              obtain ⟨rfl, rfl, rfl⟩ := H
              go_wp2_with (first | ((with_reducible refine gate_callee (f := 27) rfl ?_); refine goesL_ (some 18) rfl rfl Try.func27 (by kernel_rfl) rfl #[.string (a0.extract (x6_1 : Int).toNat a0.size)] rfl (by (try simp only [List.map_toArray, List.map_cons, List.map_nil]); first | done | rfl | (simp only [List.length_drop, List.length_take]; rfl)) ?_; (with_reducible refine (lombardref07_Next.calls k1 (a0.extract (x6_1 : Int).toNat a0.size) t129 t130 t131 _ A5.out).mono ?_); rintro e w10 ⟨rfl, hb⟩; refine ⟨_, rfl, ?_⟩; have n0_ := Aside0.mk (Kd.R_below (by (with_reducible repeat (first | apply Kd.R_alloc | apply Kd.R_drewN | apply Kd.R_drew)); exact HO_5.out) hb); have n1_ := Aside0.mk (below_step (by repeat (first | (with_reducible first | exact HB.out | apply below_alloc | apply pw_below_drewN | apply below_drew1) | exact HB.out)) hb); clear HO_5; clear HB; have HO_5 := n0_; have HB := n1_; clear n0_ n1_; (try clear hb); (try clear hb2); (try clear hk); (try clear hi)))
              go_ret3
              exact ⟨_, by first | rfl | (simp [errW_none, errW_some] <;> rfl) | (simp [*, errW_none, errW_some] <;> rfl), by (with_reducible repeat (first | apply Kd.R_alloc | apply Kd.R_drewN | apply Kd.R_drew)); exact HO_5.out, by repeat (first | (with_reducible first | exact HB.out | apply below_alloc | apply pw_below_drewN | apply below_drew1) | exact HB.out)⟩
          · rw [if_neg c4] at H
            exact absurd H (by simp)
        · rw [if_neg c3] at H
          exact absurd H (by simp)
      · rw [if_neg c2] at H
        have c2b0 : decide (x6_1 < (a0.size : Int)) = false := decide_eq_false c2
        clear c2
        simp only [Option.some.injEq, Prod.mk.injEq] at H
        obtain ⟨rfl, rfl, rfl⟩ := H
        go_wp2
        go_ret3
        exact ⟨_, by first | rfl | (simp [errW_none, errW_some] <;> rfl) | (simp [*, errW_none, errW_some] <;> rfl), by (with_reducible repeat (first | apply Kd.R_alloc | apply Kd.R_drewN | apply Kd.R_drew)); exact HO_5.out, by repeat (first | (with_reducible first | exact HB.out | apply below_alloc | apply pw_below_drewN | apply below_drew1) | exact HB.out)⟩

end Go.Proofs.Ytejfdiiennnjjaa.F
