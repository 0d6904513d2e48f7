/- A number of which one digit is another one, or two neighbours are changed round, is none: the law's function, as printed, comes to true for all texts. -/
import Derived.Test.YtabnpmojccepcaaFactsE
import Derived.Test.YtabnpmojccepcaaJx1
namespace Go.Proofs.Ytabnpmojccepcaa.Facts
open Go.RowKit Go.Proofs.YtabnpmojccepcaaW.PrintWords Go.Proofs.YtabnpmojccepcaaW.PrintLast Go.Proofs.YtabnpmojccepcaaW.PrintMore Go.Proofs.Ytabnpmojccepcaa Go.Proofs.Ytabnpmojccepcaa.J
set_option linter.unusedVariables false

theorem join_L (s : ByteArray) (k j : Nat) (xs : List Int) : L (((s.extract 0 k) ++ strOfNums xs) ++ s.extract j s.size) = (L s).take k ++ (xs.map (fun n => UInt8.ofNat n.toNat) ++ (L s).drop j) := by
  rw [L_append, L_append, L_extract, L_extract, L_nums, List.drop_zero, List.append_assoc, ← L_len, List.take_length]
theorem ofN (c : UInt8) : UInt8.ofNat ((c.toNat : Int)).toNat = c := by
  apply UInt8.toNat_inj.1
  have := ofNat_toNat (c.toNat : Int) (by omega) (by have := c.toNat_lt; omega)
  omega

theorem j2_ev (s u : ByteArray) (k : Nat) (nine : Bool) (x y : Int) (hx : bt s (k : Int) = x) (hy : bt s (wrap64 ((k : Int) + 1)) = y) (hs : s.size = 12) (hk : k < 11)
    (hc : nine = false → ((chk (L u) == 0) == (x == y)) = true) : Ev (fun kk => lombardlaw05_IsinSlips.j2 kk s (k : Int) u nine) true := by
  have hw : wrap64 ((k : Int) + 1) = ((k + 1 : Nat) : Int) := by rw [w64 (by omega) (by omega)]; push_cast; rfl
  cases nine
  · refine Ev.step (f := fun kk => (I.isin_Check.f kk u).bind fun t113 => (if 0 ≤ (k : Int) then (if (k : Int) < (s.size : Int) then (if 0 ≤ (wrap64 ((k : Int) + 1)) then (if (wrap64 ((k : Int) + 1)) < (s.size : Int) then (if ((t113 == 0) == ((bt s (k : Int)) == (bt s (wrap64 ((k : Int) + 1))))) = true then ((I.lombardlaw05_awake.f kk).bind fun t114 => (some t114)) else (some false)) else (none)) else (none)) else (none)) else (none))) (fun kk => ?_) (Ev.bind (Check_ev u) ?_)
    · rw [lombardlaw05_IsinSlips.j2, if_neg (by simp)]
    · refine Ev.congr (f := fun kk => (I.lombardlaw05_awake.f kk).bind fun t => some t) (fun kk => ?_) awake_end
      rw [if_pos (by omega), if_pos (by omega), if_pos (by omega), if_pos (by omega), hx, hy, if_pos (hc rfl)]
  · refine Ev.step (f := fun kk => (I.lombardlaw05_awake.f kk).bind fun t => some t) (fun kk => ?_) awake_end
    rw [lombardlaw05_IsinSlips.j2, if_pos rfl]

theorem j1_ev (s : ByteArray) (k : Nat) (q : List UInt8) (x y : UInt8) (e : L s = (L s).take k ++ x :: y :: q) (hq : (L s).drop (k + 2) = q) (hbx : bt s (k : Int) = (x.toNat : Int)) (hby : bt s ((k + 1 : Nat) : Int) = (y.toNat : Int))
    (hs : s.size = 12) (hk : k < 11) (hx : isD x = true) (hy : isD y = true) (hc : chk (L s) = 0) : Ev (fun kk => lombardlaw05_IsinSlips.j1 kk s (k : Int) false) true := by
  have hw : wrap64 ((k : Int) + 1) = ((k + 1 : Nat) : Int) := by rw [w64 (by omega) (by omega)]; push_cast; rfl
  have hw2 : wrap64 ((k : Int) + 2) = ((k + 2 : Nat) : Int) := by rw [w64 (by omega) (by omega)]; push_cast; rfl
  have hu := join_L s k (k + 2) [(y.toNat : Int), (x.toNat : Int)]
  rw [hq] at hu
  simp only [List.map_cons, List.map_nil, ofN, List.cons_append, List.nil_append] at hu
  have hz : (s.extract 0 k).size ≤ 12 := by
    have := congrArg List.length (L_extract s 0 k)
    rw [L_len, List.length_drop, List.length_take, L_len] at this
    omega
  have hz2 : (s.extract (k + 2) s.size).size ≤ 12 := by
    have := congrArg List.length (L_extract s (k + 2) s.size)
    rw [L_len, List.length_drop, List.length_take, L_len] at this
    omega
  have hx' := (isD_iff x).1 hx
  have hy' := (isD_iff y).1 hy
  refine Ev.step (f := fun kk => lombardlaw05_IsinSlips.j2 kk s (k : Int) ((s.extract 0 k ++ strOfNums [(y.toNat : Int), (x.toNat : Int)]) ++ s.extract (k + 2) s.size) ((decide (x.toNat = 48) && decide (y.toNat = 57)) || (decide (x.toNat = 57) && decide (y.toNat = 48)))) (fun kk => ?_) ?_
  · rw [lombardlaw05_IsinSlips.j1, if_neg (by simp), hw, hw2, hbx, hby, if_pos (by omega), if_pos (by omega), if_pos (by omega), if_pos (by omega), if_pos (by omega)]
    rw [Option.bind_some]
    simp only [Int.toNat_natCast]
    rw [if_pos (by rw [strOfNums_size]; simp; omega), if_pos (by omega), if_pos (by omega), if_pos (by rw [ByteArray.size_append, strOfNums_size]; simp; omega)]
    by_cases h1 : x.toNat = 48
    · rw [if_pos (by omega)]
      by_cases h2 : y.toNat = 57
      · rw [if_pos (by omega)]; simp [h1, h2]
      · rw [if_neg (by omega), if_neg (by omega)]; simp [h1, h2]
    · rw [if_neg (by omega)]
      by_cases h2 : x.toNat = 57
      · rw [if_pos (by omega)]
        congr 1
        rw [Bool.eq_iff_iff]; simp [h2]; omega
      · rw [if_neg (by omega)]; simp [h1, h2]
  · refine j2_ev s _ k _ _ _ hbx (by rw [hw, hby]) hs hk ?_
    intro hn
    simp only [Bool.or_eq_false_iff, Bool.and_eq_false_iff, decide_eq_false_iff_not] at hn
    rw [hu]
    rw [e] at hc
    have h := slip_two ((L s).take k) q x y hx hy (by omega) (by omega) hc
    rw [beq_iff_eq, Bool.eq_iff_iff]
    simp only [beq_iff_eq]
    rw [h]; omega

theorem j0_ev (s : ByteArray) (k : Nat) (c : Int) (q : List UInt8) (x : UInt8) (e : L s = (L s).take k ++ x :: q) (hq : (L s).drop (k + 1) = q) (hbx : bt s (k : Int) = (x.toNat : Int))
    (hs : s.size = 12) (hk : k < 12) (hx : isD x = true) (hc : chk (L s) = 0) (h0 : 0 ≤ c) (h1 : c ≤ 255) : Ev (fun kk => lombardlaw05_IsinSlips.j0 kk s c (k : Int) false) true := by
  have hw : wrap64 ((k : Int) + 1) = ((k + 1 : Nat) : Int) := by rw [w64 (by omega) (by omega)]; push_cast; rfl
  have hd : (48 + Int.tmod c 10) % 256 = 48 + c % 10 := by rw [Int.tmod_eq_emod_of_nonneg h0]; omega
  have hdn := ofNat_toNat (48 + c % 10) (by omega) (by omega)
  have hdD : isD (UInt8.ofNat (48 + c % 10).toNat) = true := (isD_iff _).2 (by omega)
  have hu := join_L s k (k + 1) [48 + c % 10]
  rw [hq] at hu
  simp only [List.map_cons, List.map_nil, List.cons_append, List.nil_append] at hu
  have hz : (s.extract 0 k).size ≤ 12 := by
    have := congrArg List.length (L_extract s 0 k)
    rw [L_len, List.length_drop, List.length_take, L_len] at this
    omega
  have hz2 : (s.extract (k + 1) s.size).size ≤ 12 := by
    have := congrArg List.length (L_extract s (k + 1) s.size)
    rw [L_len, List.length_drop, List.length_take, L_len] at this
    omega
  have hC := Check_ev ((s.extract 0 k ++ strOfNums [48 + c % 10]) ++ s.extract (k + 1) s.size)
  rw [hu] at hC
  have hc2 := hc
  rw [e] at hc2
  have hone := slip_one ((L s).take k) q x _ hx hdD hc2
  refine Ev.step (f := fun kk => (I.isin_Check.f kk ((s.extract 0 k ++ strOfNums [48 + c % 10]) ++ s.extract (k + 1) s.size)).bind fun t107 => (if (k : Int) < (s.size : Int) then (if ((t107 == 0) != ((48 + c % 10) == (bt s (k : Int)))) = true then (some false) else (if (k : Int) = 11 then (lombardlaw05_IsinSlips.j1 kk s (k : Int) true) else (if ((k + 1 : Nat) : Int) < (s.size : Int) then (if (bt s ((k + 1 : Nat) : Int)) < 48 then (lombardlaw05_IsinSlips.j1 kk s (k : Int) true) else (lombardlaw05_IsinSlips.j1 kk s (k : Int) (decide ((bt s ((k + 1 : Nat) : Int)) > 57)))) else (none)))) else (none))) (fun kk => ?_) (Ev.bind hC ?_)
  · rw [lombardlaw05_IsinSlips.j0, if_neg (by simp), if_pos (by omega), if_pos (by omega), hw, hd]
    rw [Option.bind_some]
    simp only [Int.toNat_natCast]
    rw [if_pos (by rw [strOfNums_size]; simp; omega), if_pos (by omega), if_pos (by omega), if_pos (by rw [ByteArray.size_append, strOfNums_size]; simp; omega)]
  · have hne : ((chk ((L s).take k ++ UInt8.ofNat (48 + c % 10).toNat :: q) == 0) != ((48 + c % 10) == (x.toNat : Int))) = false := by
      rw [bne_eq_false_iff_eq, Bool.eq_iff_iff]
      simp only [beq_iff_eq]
      rw [hone]; omega
    have hend : Ev (fun kk => lombardlaw05_IsinSlips.j1 kk s (k : Int) true) true := by
      refine Ev.step (f := fun kk => (I.lombardlaw05_awake.f kk).bind fun t => some t) (fun kk => ?_) awake_end
      rw [lombardlaw05_IsinSlips.j1, if_pos rfl]
    by_cases h11 : k = 11
    · refine Ev.congr (f := fun kk => lombardlaw05_IsinSlips.j1 kk s (k : Int) true) (fun kk => ?_) hend
      rw [if_pos (by omega), hbx, if_neg (by rw [hne]; simp), if_pos (by omega)]
    · have hlen : k + 1 < (L s).length := by rw [L_len]; omega
      have hq2 : (L s).drop (k + 1) = (L s)[k + 1] :: (L s).drop (k + 1 + 1) := List.drop_eq_getElem_cons hlen
      have hby := bt_L s (k + 1) hlen
      rw [hq2] at hq
      by_cases hy : isD (L s)[k + 1] = true
      · have hy' := (isD_iff _).1 hy
        refine Ev.congr (f := fun kk => lombardlaw05_IsinSlips.j1 kk s (k : Int) false) (fun kk => ?_) (j1_ev s k _ x _ (by rw [hq]; exact e) rfl hbx hby hs (by omega) hx hy hc)
        rw [if_pos (by omega), hbx, if_neg (by rw [hne]; simp), if_neg (by omega), if_pos (by omega), hby, if_neg (by omega), decide_eq_false (by omega)]
      · have hy' : ¬ (48 ≤ (L s)[k + 1].toNat ∧ (L s)[k + 1].toNat ≤ 57) := fun h => hy ((isD_iff _).2 h)
        refine Ev.congr (f := fun kk => lombardlaw05_IsinSlips.j1 kk s (k : Int) true) (fun kk => ?_) hend
        rw [if_pos (by omega), hbx, if_neg (by rw [hne]; simp), if_neg (by omega), if_pos (by omega), hby]
        by_cases h48 : (((L s)[k + 1]).toNat : Int) < 48
        · rw [if_pos h48]
        · rw [if_neg h48, decide_eq_true (by omega)]

theorem IsinSlips_ev (s : ByteArray) (a c : Int) (ha : 0 ≤ a) (h0 : 0 ≤ c) (h1 : c ≤ 255) : Ev (fun kk => lombardlaw05_IsinSlips.f kk s a c) true := by
  unfold lombardlaw05_IsinSlips.f
  refine Ev.bind (RCheck_ev s) ?_
  by_cases h : chk (L s) = 0
  · simp only [h, if_true]
    have hl := (chk_zero _).1 h |>.1.1
    have hs : s.size = 12 := by rw [← L_len]; exact hl
    obtain ⟨k, hk, hk2⟩ : ∃ k : Nat, wrap64 (Int.tmod a 12) = (k : Int) ∧ k < 12 := by
      refine ⟨(a % 12).toNat, ?_, by omega⟩
      rw [Int.tmod_eq_emod_of_nonneg ha, w64 (by omega) (by omega)]; omega
    have hlen : k < (L s).length := by omega
    have hbx := bt_L s k hlen
    have e : L s = (L s).take k ++ (L s)[k] :: (L s).drop (k + 1) := by
      rw [← List.drop_eq_getElem_cons hlen, List.take_append_drop]
    by_cases hx : isD (L s)[k] = true
    · have hx' := (isD_iff _).1 hx
      refine Ev.congr (f := fun kk => lombardlaw05_IsinSlips.j0 kk s c (k : Int) false) (fun kk => ?_) (j0_ev s k c _ _ e rfl hbx hs hk2 hx h h0 h1)
      rw [hk, if_pos (by omega), if_pos (by omega), hbx, if_neg (by omega), decide_eq_false (by omega)]
    · have hx' : ¬ (48 ≤ (L s)[k].toNat ∧ (L s)[k].toNat ≤ 57) := fun h => hx ((isD_iff _).2 h)
      refine Ev.congr (f := fun kk => lombardlaw05_IsinSlips.j0 kk s c (k : Int) true) (fun kk => ?_) ?_
      · rw [hk, if_pos (by omega), if_pos (by omega), hbx]
        by_cases h48 : (((L s)[k]).toNat : Int) < 48
        · rw [if_pos h48]
        · rw [if_neg h48, decide_eq_true (by omega)]
      · refine Ev.step (f := fun kk => (I.lombardlaw05_awake.f kk).bind fun t => some t) (fun kk => ?_) awake_end
        rw [lombardlaw05_IsinSlips.j0, if_pos rfl]
  · simp only [h, if_false]
    exact awake_end
end Go.Proofs.Ytabnpmojccepcaa.Facts
namespace Go.Proofs.Ytabnpmojccepcaa.Pure
open Go.RowKit Go.Proofs.Ytabnpmojccepcaa.J
theorem IsinSlips : lombardlaw05_IsinSlips.Pure := fun a0 a1 a2 _ h1 h2 => by
  have e1 : 0 ≤ a1 := by simp only [Lit.wf, Bool.and_eq_true, decide_eq_true_eq] at h1; exact h1.1
  have e2 : 0 ≤ a2 ∧ a2 ≤ 255 := by simp only [Lit.wf, Bool.and_eq_true, decide_eq_true_eq] at h2; exact h2
  exact (Facts.IsinSlips_ev a0 a1 a2 e1 e2.1 e2.2).rounds
end Go.Proofs.Ytabnpmojccepcaa.Pure
