/- Package disk: each method by one contract, whatever the disk that was made; how long its files may get. -/
import Derived.Test.YtejfdiiennnjjaaDr
namespace Go.Proofs.Ytejfdiiennnjjaa.D
open Go.RowKit Go.Proofs Go.Proofs.Ytejfdiiennnjjaa
set_option linter.unusedVariables false

def appN (d : Dk) (i : Int) (s : ByteArray) : Int := if ¬ rdy d i = 0 then rdy d i else if 1048576 < d.len i + s.size then 18 else useN d
def appD (d : Dk) (i : Int) (s : ByteArray) : Dk := if ¬ rdy d i = 0 then d else if 1048576 < d.len i + s.size then d else if d.left = 0 then useD d else (useD d).setL i (d.l i ++ s)
theorem Append_any (b : Nat) (d : Dk) (i : Int) (s : ByteArray) (w : World) (h : Is b d w) (hf : d.Fits) : Calls Try.prog 32 #[.pointer (some ⟨b, 0, none⟩), .int .i64 i, .string s] w fun e w' => e = .returned (.int .i64 (appN d i s)) ∧ Turn b (appD d i s) w w' := by
  unfold appN appD
  by_cases hr : rdy d i = 0
  · rw [if_neg (not_not_intro hr), if_neg (not_not_intro hr)]
    by_cases hs : 1048576 < d.len i + s.size
    · rw [if_pos hs, if_pos hs]
      exact (Append_full b d i s w h hf hr hs).mono fun e w' ⟨he, n, hn⟩ => ⟨he, by rw [hn]; exact (Turn.refl h).drewN n⟩
    · rw [if_neg hs, if_neg hs]
      unfold useN
      by_cases h0 : d.left = 0
      · rw [if_pos h0, if_pos h0]
        exact Append_dead b d i s w h hf hr (by omega) h0
      · rw [if_neg h0, if_neg h0]
        exact Append_ok b d i s w h hf hr (by omega) h0
  · rw [if_pos hr, if_pos hr]
    exact (Append_bad b d i s w h hr).mono fun e w' ⟨he, hn⟩ => ⟨he, by rw [hn]; exact Turn.refl h⟩
def synN (d : Dk) (i : Int) : Int := if ¬ rdy d i = 0 then rdy d i else useN d
def synD (d : Dk) (i : Int) : Dk := if ¬ rdy d i = 0 then d else if d.left = 0 then useD d else ((useD d).setS i (d.s i ++ d.l i)).setL i ⟨#[]⟩
theorem Sync_any (b : Nat) (d : Dk) (i : Int) (w : World) (h : Is b d w) (hf : d.Fits) : Calls Try.prog 36 #[.pointer (some ⟨b, 0, none⟩), .int .i64 i] w fun e w' => e = .returned (.int .i64 (synN d i)) ∧ Turn b (synD d i) w w' := by
  unfold synN synD
  by_cases hr : rdy d i = 0
  · rw [if_neg (not_not_intro hr), if_neg (not_not_intro hr)]
    unfold useN
    by_cases h0 : d.left = 0
    · rw [if_pos h0, if_pos h0]
      exact Sync_dead b d i w h hf hr h0
    · rw [if_neg h0, if_neg h0]
      exact Sync_ok b d i w h hf hr h0
  · rw [if_pos hr, if_pos hr]
    exact (Sync_bad b d i w h hr).mono fun e w' ⟨he, hn⟩ => ⟨he, by rw [hn]; exact Turn.refl h⟩
def cutN (d : Dk) (i n : Int) : Int := if ¬ rdy d i = 0 then rdy d i else if n < 0 ∨ (d.len i : Int) < n then 1 else useN d
def cutD (d : Dk) (i n : Int) : Dk := if ¬ rdy d i = 0 then d else if n < 0 ∨ (d.len i : Int) < n then d else if d.left = 0 then useD d else
  if n ≤ (d.s i).size then ((useD d).setS i ((d.s i).extract 0 n.toNat)).setL i ⟨#[]⟩ else (useD d).setL i ((d.l i).extract 0 (n.toNat - (d.s i).size))
theorem Cut_any (b : Nat) (d : Dk) (i n : Int) (w : World) (h : Is b d w) (hf : d.Fits) : Calls Try.prog 43 #[.pointer (some ⟨b, 0, none⟩), .int .i64 i, .int .i64 n] w fun e w' => e = .returned (.int .i64 (cutN d i n)) ∧ Turn b (cutD d i n) w w' := by
  unfold cutN cutD
  by_cases hr : rdy d i = 0
  · rw [if_neg (not_not_intro hr), if_neg (not_not_intro hr)]
    by_cases hs : n < 0 ∨ (d.len i : Int) < n
    · rw [if_pos hs, if_pos hs]
      exact (Cut_arg b d i n w h hf hr hs).mono fun e w' ⟨he, n, hn⟩ => ⟨he, by rw [hn]; exact (Turn.refl h).drewN n⟩
    · rw [if_neg hs, if_neg hs]
      have h1 : 0 ≤ n := by omega
      have h2 : n ≤ d.len i := by omega
      unfold useN
      by_cases h0 : d.left = 0
      · rw [if_pos h0, if_pos h0]
        exact Cut_dead b d i n w h hf hr h1 h2 h0
      · rw [if_neg h0, if_neg h0]
        by_cases h3 : n ≤ (d.s i).size
        · rw [if_pos h3]
          exact Cut_safe b d i n w h hf hr h1 h2 h0 h3
        · rw [if_neg h3]
          exact Cut_late b d i n w h hf hr h2 h0 (by omega)
  · rw [if_pos hr, if_pos hr]
    exact (Cut_bad b d i n w h hr).mono fun e w' ⟨he, hn⟩ => ⟨he, by rw [hn]; exact Turn.refl h⟩
def allOf (d : Dk) (i : Int) : ByteArray := if ¬ rdy d i = 0 then ⟨#[]⟩ else d.s i ++ d.l i
def lenOf (d : Dk) (i : Int) : Nat := if ¬ rdy d i = 0 then 0 else d.len i
def lateOf (d : Dk) (i : Int) : Nat := if ¬ rdy d i = 0 then 0 else (d.l i).size
theorem Read_any (b : Nat) (d : Dk) (i : Int) (w : World) (h : Is b d w) (hf : d.Fits) : Calls Try.prog 41 #[.pointer (some ⟨b, 0, none⟩), .int .i64 i] w fun e w' => e = .returned (.tuple #[.string (allOf d i), .int .i64 (rdy d i)]) ∧ Turn b d w w' := by
  unfold allOf
  by_cases hr : rdy d i = 0
  · rw [if_neg (not_not_intro hr)]
    have R := Read_ok b d i w h hf hr
    rw [← hr] at R
    exact R.mono fun e w' ⟨he, n, hn⟩ => ⟨he, by rw [hn]; exact (Turn.refl h).drewN n⟩
  · rw [if_pos hr]
    exact (Read_bad b d i w h hr).mono fun e w' ⟨he, hn⟩ => ⟨he, by rw [hn]; exact Turn.refl h⟩
theorem Len_any (b : Nat) (d : Dk) (i : Int) (w : World) (h : Is b d w) (hf : d.Fits) : Calls Try.prog 33 #[.pointer (some ⟨b, 0, none⟩), .int .i64 i] w fun e w' => e = .returned (.tuple #[.int .i64 (lenOf d i : Nat), .int .i64 (rdy d i)]) ∧ Turn b d w w' := by
  unfold lenOf
  by_cases hr : rdy d i = 0
  · rw [if_neg (not_not_intro hr)]
    have R := Len_ok b d i w h hf hr
    rw [hr]
    exact R.mono fun e w' ⟨he, n, hn⟩ => ⟨he, by rw [hn]; exact (Turn.refl h).drewN n⟩
  · rw [if_pos hr]
    exact (Len_bad b d i w h hr).mono fun e w' ⟨he, hn⟩ => ⟨he, by rw [hn]; exact Turn.refl h⟩
theorem Late_any (b : Nat) (d : Dk) (i : Int) (w : World) (h : Is b d w) : Calls Try.prog 42 #[.pointer (some ⟨b, 0, none⟩), .int .i64 i] w fun e w' => e = .returned (.int .i64 (lateOf d i : Nat)) ∧ Turn b d w w' := by
  unfold lateOf
  by_cases hr : rdy d i = 0
  · rw [if_neg (not_not_intro hr)]
    exact (Late_ok b d i w h hr).mono fun e w' ⟨he, hn⟩ => ⟨he, by rw [hn]; exact Turn.refl h⟩
  · rw [if_pos hr]
    exact (Late_bad b d i w h hr).mono fun e w' ⟨he, hn⟩ => ⟨he, by rw [hn]; exact Turn.refl h⟩

theorem no_len : (⟨#[]⟩ : ByteArray).size = 0 := rfl
theorem zero_fits : zero.Fits := by unfold Dk.Fits; decide
theorem useD_fits {d : Dk} (hf : d.Fits) : (useD d).Fits := by
  unfold useD
  obtain ⟨f0, f1, f2, f3, g, g'⟩ := hf
  split
  · exact ⟨f0, f1, f2, f3, g, g'⟩
  · split
    · exact ⟨f0, f1, f2, f3, by show d.left - 1 ≤ _; omega, by show _ ≤ d.left - 1; omega⟩
    · exact ⟨f0, f1, f2, f3, g, g'⟩
theorem set_fits {d : Dk} (hf : d.Fits) (i : Int) (x y : ByteArray) (h : x.size + y.size ≤ 1048576) : ((d.setS i x).setL i y).Fits := by
  obtain ⟨f0, f1, f2, f3, g⟩ := hf
  unfold Dk.setS Dk.setL
  by_cases h0 : i = 0
  · rw [if_pos h0, if_pos h0]; exact ⟨h, f1, f2, f3, g⟩
  · rw [if_neg h0, if_neg h0]
    by_cases h1 : i = 1
    · rw [if_pos h1, if_pos h1]; exact ⟨f0, h, f2, f3, g⟩
    · rw [if_neg h1, if_neg h1]
      by_cases h2 : i = 2
      · rw [if_pos h2, if_pos h2]; exact ⟨f0, f1, h, f3, g⟩
      · rw [if_neg h2, if_neg h2]; exact ⟨f0, f1, f2, h, g⟩
theorem setS_self (d : Dk) (i : Int) : d.setS i (d.s i) = d := by
  unfold Dk.setS Dk.s
  (repeat' split) <;> rfl
theorem setL_fits {d : Dk} (hf : d.Fits) (i : Int) (y : ByteArray) (h : (d.s i).size + y.size ≤ 1048576) : (d.setL i y).Fits := by
  have := set_fits hf i (d.s i) y h
  rwa [setS_self] at this
theorem appD_fits {d : Dk} (hf : d.Fits) (i : Int) (s : ByteArray) : (appD d i s).Fits := by
  unfold appD
  split
  · exact hf
  · split
    · exact hf
    · split
      · exact useD_fits hf
      · refine setL_fits (useD_fits hf) i _ ?_
        rw [useD_s, ByteArray.size_append]
        rename_i h _
        unfold Dk.len at h
        omega
theorem synD_fits {d : Dk} (hf : d.Fits) (i : Int) : (synD d i).Fits := by
  unfold synD
  split
  · exact hf
  · split
    · exact useD_fits hf
    · refine set_fits (useD_fits hf) i _ _ ?_
      have := len_max hf i
      unfold Dk.len at this
      rw [ByteArray.size_append, no_len]
      omega
theorem cutD_fits {d : Dk} (hf : d.Fits) (i n : Int) : (cutD d i n).Fits := by
  have hm := len_max hf i
  unfold Dk.len at hm
  unfold cutD
  split
  · exact hf
  · split
    · exact hf
    · split
      · exact useD_fits hf
      · split
        · refine set_fits (useD_fits hf) i _ _ ?_
          rw [ByteArray.size_extract, no_len]
          omega
        · refine setL_fits (useD_fits hf) i _ ?_
          rw [useD_s, ByteArray.size_extract]
          omega
theorem kept_le (k : Int) (l : ByteArray) : kept k l ≤ l.size := by unfold kept; omega
theorem keep1_size (s l : ByteArray) (k : Int) : (keep1 s l k).size = s.size + kept k l := by
  have := kept_le k l
  unfold keep1
  rw [ByteArray.size_append, ByteArray.size_extract]
  omega
theorem crash_fits {d : Dk} (hf : d.Fits) (k0 k1 k2 k3 : Int) : (crash d k0 k1 k2 k3).Fits := by
  obtain ⟨f0, f1, f2, f3, g, g'⟩ := hf
  have := kept_le k0 d.l0
  have := kept_le k1 d.l1
  have := kept_le k2 d.l2
  have := kept_le k3 d.l3
  refine ⟨?_, ?_, ?_, ?_, ?_, ?_⟩
  · show (keep1 d.s0 d.l0 k0).size + (⟨#[]⟩ : ByteArray).size ≤ _; rw [keep1_size, no_len]; omega
  · show (keep1 d.s1 d.l1 k1).size + (⟨#[]⟩ : ByteArray).size ≤ _; rw [keep1_size, no_len]; omega
  · show (keep1 d.s2 d.l2 k2).size + (⟨#[]⟩ : ByteArray).size ≤ _; rw [keep1_size, no_len]; omega
  · show (keep1 d.s3 d.l3 k3).size + (⟨#[]⟩ : ByteArray).size ≤ _; rw [keep1_size, no_len]; omega
  · show (-1 : Int) ≤ _; omega
  · show _ ≤ (-1 : Int); omega
theorem useD_made (d : Dk) : (useD d).made = d.made := by unfold useD; (repeat' split) <;> rfl
theorem setS_made (d : Dk) (i : Int) (x : ByteArray) : (d.setS i x).made = d.made := by unfold Dk.setS; (repeat' split) <;> rfl
theorem setL_made (d : Dk) (i : Int) (x : ByteArray) : (d.setL i x).made = d.made := by unfold Dk.setL; (repeat' split) <;> rfl
theorem appD_made (d : Dk) (i : Int) (s : ByteArray) : (appD d i s).made = d.made := by unfold appD; (repeat' split) <;> simp only [setL_made, useD_made]
theorem synD_made (d : Dk) (i : Int) : (synD d i).made = d.made := by unfold synD; (repeat' split) <;> simp only [setL_made, setS_made, useD_made]
theorem cutD_made (d : Dk) (i n : Int) : (cutD d i n).made = d.made := by unfold cutD; (repeat' split) <;> simp only [setL_made, setS_made, useD_made]
end Go.Proofs.Ytejfdiiennnjjaa.D
