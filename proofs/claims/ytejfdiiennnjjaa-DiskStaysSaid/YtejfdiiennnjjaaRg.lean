/- The program's disk and the document's: each call takes the one to the other. -/
import Derived.Test.YtejfdiiennnjjaaRc
import Derived.Test.YtejfdiiennnjjaaRd
import Derived.Test.YtejfdiiennnjjaaRe
namespace Go.Proofs.Ytejfdiiennnjjaa.R
open Go.RowKit Go.Proofs Go.Proofs.Ytejfdiiennnjjaa Go.Proofs.Ytejfdiiennnjjaa.D
set_option linter.unusedVariables false

/-- The document's disk of a disk. -/
def toR (d : Dk) : Rf := ⟨d.s0 ++ d.l0, (d.s0.size : Nat), d.s1 ++ d.l1, (d.s1.size : Nat), d.s2 ++ d.l2, (d.s2.size : Nat), d.s3 ++ d.l3, (d.s3.size : Nat), d.left, d.dead⟩
theorem toR_a (d : Dk) (i : Int) : (toR d).a i = d.s i ++ d.l i := by unfold Rf.a Dk.s Dk.l; (repeat' split) <;> rfl
theorem toR_p (d : Dk) (i : Int) : (toR d).p i = ((d.s i).size : Nat) := by unfold Rf.p Dk.s; (repeat' split) <;> rfl
theorem toR_fits {d : Dk} (h : d.Fits) : (toR d).Fits := by
  obtain ⟨h0, h1, h2, h3, h4, _⟩ := h
  exact ⟨by show (d.s0 ++ d.l0).size ≤ _; rw [ByteArray.size_append]; exact h0, by show (d.s1 ++ d.l1).size ≤ _; rw [ByteArray.size_append]; exact h1, by show (d.s2 ++ d.l2).size ≤ _; rw [ByteArray.size_append]; exact h2, by show (d.s3 ++ d.l3).size ≤ _; rw [ByteArray.size_append]; exact h3, h4⟩
theorem safe_le (s l : ByteArray) : (0 : Int) ≤ (s.size : Nat) ∧ ((s.size : Nat) : Int) ≤ ((s ++ l).size : Nat) := by rw [ByteArray.size_append]; omega
theorem toR_safe (d : Dk) : (toR d).Safe := ⟨safe_le _ _, safe_le _ _, safe_le _ _, safe_le _ _⟩
theorem toR_chk {d : Dk} (h : d.made = true) (i : Int) : chk (toR d) i = rdy d i := by
  unfold chk rdy
  rw [if_neg (show ¬ d.made = false by rw [h]; simp)]
  show (if d.dead = true then _ else _) = _
  by_cases hd : d.dead = true
  · rw [if_pos hd, if_pos hd]
  · rw [if_neg hd, if_neg hd]
    by_cases hi : i < 0 ∨ 4 ≤ i
    · rw [if_pos hi, if_pos (by omega)]
    · rw [if_neg hi, if_neg (by omega)]
theorem toR_spe (d : Dk) : spe (toR d) 0 = (toR (useD d), useN d) := by
  unfold spe useD useN
  rw [if_neg (by omega)]
  show (if d.left = 0 then _ else _) = _
  by_cases h0 : d.left = 0
  · rw [if_pos h0, if_pos h0, if_pos h0]; rfl
  · rw [if_neg h0, if_neg h0, if_neg h0]
    show (if 0 < d.left then _ else _) = _
    by_cases h1 : 0 < d.left
    · rw [if_pos h1, if_pos h1]; rfl
    · rw [if_neg h1, if_neg h1]
theorem set_both (d : Dk) (i : Int) (x y : ByteArray) : ((toR d).setA i (x ++ y)).setP i (x.size : Nat) = toR ((d.setS i x).setL i y) := by
  unfold Rf.setA Rf.setP Dk.setS Dk.setL
  by_cases h0 : i = 0
  · rw [if_pos h0, if_pos h0, if_pos h0, if_pos h0]; rfl
  · rw [if_neg h0, if_neg h0, if_neg h0, if_neg h0]
    by_cases h1 : i = 1
    · rw [if_pos h1, if_pos h1, if_pos h1, if_pos h1]; rfl
    · rw [if_neg h1, if_neg h1, if_neg h1, if_neg h1]
      by_cases h2 : i = 2
      · rw [if_pos h2, if_pos h2, if_pos h2, if_pos h2]; rfl
      · rw [if_neg h2, if_neg h2, if_neg h2, if_neg h2]; rfl
theorem setP_self (r : Rf) (i : Int) (x : ByteArray) : (r.setA i x).setP i (r.p i) = r.setA i x := by
  unfold Rf.setA Rf.setP Rf.p
  by_cases h0 : i = 0
  · rw [if_pos h0, if_pos h0, if_pos h0]
  · rw [if_neg h0, if_neg h0, if_neg h0]
    by_cases h1 : i = 1
    · rw [if_pos h1, if_pos h1, if_pos h1]
    · rw [if_neg h1, if_neg h1, if_neg h1]
      by_cases h2 : i = 2
      · rw [if_pos h2, if_pos h2, if_pos h2]
      · rw [if_neg h2, if_neg h2, if_neg h2]
theorem setA_self (r : Rf) (i : Int) : r.setA i (r.a i) = r := by
  unfold Rf.setA Rf.a
  (repeat' split) <;> rfl
theorem set_late (d : Dk) (i : Int) (y : ByteArray) : (toR d).setA i (d.s i ++ y) = toR (d.setL i y) := by
  have h := set_both d i (d.s i) y
  rw [setS_self, ← toR_p, setP_self] at h
  exact h
theorem setA_p (r : Rf) (i : Int) (x : ByteArray) : (r.setA i x).p i = r.p i := by
  unfold Rf.setA Rf.p
  by_cases h0 : i = 0
  · rw [if_pos h0, if_pos h0, if_pos h0]
  · rw [if_neg h0, if_neg h0, if_neg h0]
    by_cases h1 : i = 1
    · rw [if_pos h1, if_pos h1, if_pos h1]
    · rw [if_neg h1, if_neg h1, if_neg h1]
      by_cases h2 : i = 2
      · rw [if_pos h2, if_pos h2, if_pos h2]
      · rw [if_neg h2, if_neg h2, if_neg h2]

theorem app_toR {d : Dk} (hm : d.made = true) (i : Int) (s : ByteArray) : app (toR d) i s = (toR (appD d i s), appN d i s) := by
  unfold app appD appN
  by_cases hr : rdy d i = 0
  · rw [if_neg (not_not_intro hr), if_neg (not_not_intro hr)]
    by_cases hs : 1048576 < d.len i + s.size
    · have hE : appE (toR d) i s = 18 := by
        unfold appE
        rw [toR_chk hm, if_neg (not_not_intro hr), toR_a, ByteArray.size_append, if_pos (by unfold Dk.len at hs; omega)]
      rw [hE, spe_not _ _ (by omega), if_pos hs, if_pos hs, if_pos (by simp)]
    · have hE : appE (toR d) i s = 0 := by
        unfold appE
        rw [toR_chk hm, if_neg (not_not_intro hr), toR_a, ByteArray.size_append, if_neg (by unfold Dk.len at hs; omega)]
      rw [hE, toR_spe, if_neg hs, if_neg hs]
      dsimp only
      unfold useN
      by_cases h0 : d.left = 0
      · rw [if_pos h0, if_pos h0, if_pos (by omega)]
      · rw [if_neg h0, if_neg h0, if_neg (by omega), toR_a, useD_s, useD_l, ByteArray.append_assoc, ← useD_s, set_late]
  · have hE : appE (toR d) i s = rdy d i := by
      unfold appE
      rw [toR_chk hm, if_pos hr]
    rw [hE, spe_not _ _ hr, if_pos hr, if_pos hr, if_pos hr]
theorem syn_toR {d : Dk} (hm : d.made = true) (i : Int) : syn (toR d) i = (toR (synD d i), synN d i) := by
  unfold syn synD synN
  rw [toR_chk hm]
  by_cases hr : rdy d i = 0
  · rw [if_neg (not_not_intro hr), if_neg (not_not_intro hr), hr, toR_spe]
    dsimp only
    unfold useN
    by_cases h0 : d.left = 0
    · rw [if_pos h0, if_pos h0, if_pos (by omega)]
    · rw [if_neg h0, if_neg h0, if_neg (by omega), ← set_both, show d.s i ++ d.l i ++ (⟨#[]⟩ : ByteArray) = d.s i ++ d.l i from ByteArray.append_empty]
      rw [toR_a, useD_s, useD_l]
      congr 1
      congr 1
      have := setA_self (toR (useD d)) i
      rw [toR_a, useD_s, useD_l] at this
      exact this.symm
  · rw [spe_not _ _ hr, if_pos hr, if_pos hr, if_pos hr]
theorem ext_in (s l : ByteArray) (n : Nat) (h : n ≤ s.size) : (s ++ l).extract 0 n = s.extract 0 n := by
  apply ByteArray.ext
  simp [ByteArray.data_extract, Array.extract_append]
  omega
theorem ext_out (s l : ByteArray) (n : Nat) (h : s.size ≤ n) : (s ++ l).extract 0 n = s ++ l.extract 0 (n - s.size) := by
  apply ByteArray.ext
  simp [ByteArray.data_extract, Array.extract_append]
  rw [Array.extract_eq_self_of_le (by have : s.size = s.data.size := rfl; omega)]
theorem cut_toR {d : Dk} (hm : d.made = true) (i n : Int) : cut (toR d) i n = (toR (cutD d i n), cutN d i n) := by
  unfold cut cutD cutN
  by_cases hr : rdy d i = 0
  · rw [if_neg (not_not_intro hr), if_neg (not_not_intro hr)]
    by_cases hs : n < 0 ∨ (d.len i : Int) < n
    · have hE : cutE (toR d) i n = 1 := by
        unfold cutE
        rw [toR_chk hm, if_neg (not_not_intro hr), toR_a, ByteArray.size_append, if_pos (by unfold Dk.len at hs; exact hs)]
      rw [hE, spe_not _ _ (by omega), if_pos hs, if_pos hs, if_pos (by simp)]
    · have hE : cutE (toR d) i n = 0 := by
        unfold cutE
        rw [toR_chk hm, if_neg (not_not_intro hr), toR_a, ByteArray.size_append, if_neg (by unfold Dk.len at hs; exact hs)]
      rw [hE, toR_spe, if_neg hs, if_neg hs]
      dsimp only
      unfold useN
      by_cases h0 : d.left = 0
      · rw [if_pos h0, if_pos h0, if_pos (by omega)]
      · rw [if_neg h0, if_neg h0, if_neg (by omega)]
        unfold cut1
        rw [setA_p, toR_p, toR_a, useD_s, useD_l]
        by_cases h2 : n ≤ ((d.s i).size : Nat)
        · have hx : (d.s i ++ d.l i).extract 0 n.toNat = (d.s i).extract 0 n.toNat ++ (⟨#[]⟩ : ByteArray) := by
            rw [ext_in _ _ _ (by omega), show (d.s i).extract 0 n.toNat ++ (⟨#[]⟩ : ByteArray) = _ from ByteArray.append_empty]
          have hz : (((d.s i).extract 0 n.toNat).size : Int) = n := by rw [ByteArray.size_extract]; omega
          rw [if_pos h2, ← set_both, hz, hx]
          by_cases h3 : n < ((d.s i).size : Nat)
          · rw [if_pos h3]
          · rw [if_neg h3]
            have hn : n = ((d.s i).size : Nat) := by omega
            have := setP_self (toR (useD d)) i ((d.s i).extract 0 n.toNat ++ (⟨#[]⟩ : ByteArray))
            rw [toR_p, useD_s, ← hn] at this
            rw [this]
        · rw [if_neg h2, if_neg (by omega), ext_out _ _ _ (by omega), ← useD_s, set_late]
  · have hE : cutE (toR d) i n = rdy d i := by
      unfold cutE
      rw [toR_chk hm, if_pos hr]
    rw [hE, spe_not _ _ hr, if_pos hr, if_pos hr, if_pos hr]
theorem crash1 (s l : ByteArray) (k : Int) : ca (s ++ l) (s.size : Nat) k = keep1 s l k ++ (⟨#[]⟩ : ByteArray) ∧ cn (s ++ l) (s.size : Nat) k = ((keep1 s l k).size : Nat) := by
  have hc : cn (s ++ l) (s.size : Nat) k = ((s.size + kept k l : Nat) : Int) := by
    unfold cn kept
    rw [ByteArray.size_append]
    split
    · split <;> omega
    · omega
  refine ⟨?_, by rw [hc, keep1_size]⟩
  unfold ca
  rw [hc, Int.toNat_natCast, ext_out _ _ _ (by omega), show keep1 s l k ++ (⟨#[]⟩ : ByteArray) = keep1 s l k from ByteArray.append_empty]
  unfold keep1
  rw [Nat.add_sub_cancel_left]
theorem crash_toR (d : Dk) (k0 k1 k2 k3 : Int) : crash (toR d) k0 k1 k2 k3 = toR (D.crash d k0 k1 k2 k3) := by
  obtain ⟨a0, b0⟩ := crash1 d.s0 d.l0 k0
  obtain ⟨a1, b1⟩ := crash1 d.s1 d.l1 k1
  obtain ⟨a2, b2⟩ := crash1 d.s2 d.l2 k2
  obtain ⟨a3, b3⟩ := crash1 d.s3 d.l3 k3
  unfold crash toR D.crash
  dsimp only
  rw [a0, a1, a2, a3, b0, b1, b2, b3]
theorem new_toR : new = toR zero := by
  have h : (⟨#[]⟩ : ByteArray) ++ (⟨#[]⟩ : ByteArray) = ⟨#[]⟩ := ByteArray.append_empty
  unfold new toR zero
  dsimp only
  rw [h]
  rfl
end Go.Proofs.Ytejfdiiennnjjaa.R
