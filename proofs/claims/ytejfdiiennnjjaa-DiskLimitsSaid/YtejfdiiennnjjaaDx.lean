/- DiskLimits: the walk. -/
import Derived.Test.YtejfdiiennnjjaaDq
import Derived.Test.YtejfdiiennnjjaaDv
import Derived.Test.YtejfdiiennnjjaaDw
import Derived.Deep.Slices
namespace Go.Proofs.Ytejfdiiennnjjaa.D
open Go.RowKit Go.Proofs Go.Proofs.Ytejfdiiennnjjaa
set_option linter.unusedVariables false

/-- The disk behind 'k' calls of which 'm' changed it, where 'n' may. -/
structure Li (n : Int) (k m : Int) (d : Dk) : Prop where
  made : d.made = true
  fits : d.Fits
  len : (d.len 1 : Int) ≤ k
  m0 : 0 ≤ m
  lek : m ≤ k
  st : (d.dead = false ∧ (n < 0 ∧ d.left = n ∨ 0 ≤ n ∧ m ≤ n ∧ d.left = n - m)) ∨ (d.dead = true ∧ 0 ≤ n ∧ m = n)
theorem rdy1 (d : Dk) (hm : d.made = true) : rdy d 1 = if d.dead = true then 13 else 0 := by
  unfold rdy
  rw [if_neg (by rw [hm]; simp)]
  split
  · rfl
  · rw [if_neg (by omega)]
theorem useD_st {n k m : Int} {d : Dk} (h : Li n k m d) (hd : d.dead = false) (h0 : ¬ d.left = 0) : (useD d).dead = false ∧ (n < 0 ∧ (useD d).left = n ∨ 0 ≤ n ∧ m + 1 ≤ n ∧ (useD d).left = n - (m + 1)) ∧ (n < 0 ∨ m < n) := by
  have hs := h.st
  unfold useD
  rw [if_neg h0]
  rw [hd] at hs
  split
  · refine ⟨hd, ?_, ?_⟩
    · show n < 0 ∧ d.left - 1 = n ∨ 0 ≤ n ∧ m + 1 ≤ n ∧ d.left - 1 = n - (m + 1)
      simp at hs
      omega
    · simp at hs
      omega
  · refine ⟨hd, ?_, ?_⟩
    · simp at hs
      omega
    · simp at hs
      omega
theorem setL_dead (d : Dk) (i : Int) (x : ByteArray) : (d.setL i x).dead = d.dead ∧ (d.setL i x).left = d.left := by unfold Dk.setL; (repeat' split) <;> exact ⟨rfl, rfl⟩
theorem setS_dead (d : Dk) (i : Int) (x : ByteArray) : (d.setS i x).dead = d.dead ∧ (d.setS i x).left = d.left := by unfold Dk.setS; (repeat' split) <;> exact ⟨rfl, rfl⟩
theorem useD_len (d : Dk) (i : Int) : (useD d).len i = d.len i := by unfold Dk.len; rw [useD_s, useD_l]
theorem setL1_len (d : Dk) (x : ByteArray) : (d.setL 1 x).len 1 = (d.s 1).size + x.size := rfl
theorem setSL1_len (d : Dk) (x y : ByteArray) : ((d.setS 1 x).setL 1 y).len 1 = x.size + y.size := rfl
theorem dead_st {n k m : Int} {d : Dk} (h : Li n k m d) (h0 : d.left = 0) (hd : d.dead = false) : Li n (k + 1) m (useD d) ∧ ¬ (n < 0 ∨ m < n) := by
  have hs := h.st
  have hmk := h.lek
  have hl := h.len
  rw [hd] at hs
  simp at hs
  refine ⟨⟨by rw [useD_made]; exact h.made, useD_fits h.fits, by rw [useD_len]; omega, h.m0, by omega, .inr ⟨?_, by omega, by omega⟩⟩, by omega⟩
  unfold useD
  rw [if_pos h0]
/-- One change asked for: it is made while changes are left. -/
theorem app_st {n k m : Int} {d : Dk} (h : Li n k m d) (hk : k ≤ 1000) : (appN d 1 ⟨#[120]⟩ = 0 ∧ Li n (k + 1) (m + 1) (appD d 1 ⟨#[120]⟩) ∧ (n < 0 ∨ m < n)) ∨ (appN d 1 ⟨#[120]⟩ = 13 ∧ Li n (k + 1) m (appD d 1 ⟨#[120]⟩) ∧ ¬ (n < 0 ∨ m < n)) := by
  have hl := h.len
  have hmk := h.lek
  have hm0 := h.m0
  have hx : (⟨#[120]⟩ : ByteArray).size = 1 := rfl
  unfold appN appD useN
  rw [rdy1 d h.made]
  cases hd : d.dead with
  | true =>
    right
    have hs := h.st
    rw [hd] at hs
    simp at hs
    simp only [if_true]
    refine ⟨by simp, ?_, by omega⟩
    rw [if_pos (by omega)]
    exact ⟨h.made, h.fits, by omega, h.m0, by omega, .inr ⟨hd, by omega, by omega⟩⟩
  | false =>
    have hf : ¬ 1048576 < d.len 1 + (⟨#[120]⟩ : ByteArray).size := by rw [hx]; omega
    simp only [Bool.false_eq_true, if_false, not_true_eq_false, if_neg hf]
    by_cases h0 : d.left = 0
    · right
      rw [if_pos h0, if_pos h0]
      exact ⟨rfl, dead_st h h0 hd⟩
    · left
      rw [if_neg h0, if_neg h0]
      obtain ⟨g1, g2, g3⟩ := useD_st h hd h0
      refine ⟨rfl, ⟨by rw [setL_made, useD_made]; exact h.made, ?_, ?_, by omega, by omega, .inl ⟨by rw [(setL_dead _ _ _).1]; exact g1, by rw [(setL_dead _ _ _).2]; exact g2⟩⟩, g3⟩
      · have := appD_fits h.fits 1 ⟨#[120]⟩
        unfold appD at this
        rw [rdy1 d h.made, hd] at this
        simp only [Bool.false_eq_true, if_false, not_true_eq_false, if_neg hf, if_neg h0] at this
        exact this
      · rw [setL1_len, useD_s, ByteArray.size_append, hx]
        unfold Dk.len at hl
        omega
theorem syn_st {n k m : Int} {d : Dk} (h : Li n k m d) (hk : k ≤ 1000) : (synN d 1 = 0 ∧ Li n (k + 1) (m + 1) (synD d 1) ∧ (n < 0 ∨ m < n)) ∨ (synN d 1 = 13 ∧ Li n (k + 1) m (synD d 1) ∧ ¬ (n < 0 ∨ m < n)) := by
  have hl := h.len
  have hmk := h.lek
  have hm0 := h.m0
  unfold synN synD useN
  rw [rdy1 d h.made]
  cases hd : d.dead with
  | true =>
    right
    have hs := h.st
    rw [hd] at hs
    simp at hs
    simp only [if_true]
    refine ⟨by simp, ?_, by omega⟩
    rw [if_pos (by omega)]
    exact ⟨h.made, h.fits, by omega, h.m0, by omega, .inr ⟨hd, by omega, by omega⟩⟩
  | false =>
    simp only [Bool.false_eq_true, if_false, not_true_eq_false]
    by_cases h0 : d.left = 0
    · right
      rw [if_pos h0, if_pos h0]
      exact ⟨rfl, dead_st h h0 hd⟩
    · left
      rw [if_neg h0, if_neg h0]
      obtain ⟨g1, g2, g3⟩ := useD_st h hd h0
      refine ⟨rfl, ⟨by rw [setL_made, setS_made, useD_made]; exact h.made, ?_, ?_, by omega, by omega, .inl ⟨by rw [(setL_dead _ _ _).1, (setS_dead _ _ _).1]; exact g1, by rw [(setL_dead _ _ _).2, (setS_dead _ _ _).2]; exact g2⟩⟩, g3⟩
      · have := synD_fits h.fits 1
        unfold synD at this
        rw [rdy1 d h.made, hd] at this
        simp only [Bool.false_eq_true, if_false, not_true_eq_false, if_neg h0] at this
        exact this
      · rw [setSL1_len, ByteArray.size_append, no_len]
        unfold Dk.len at hl
        omega
theorem last_ok {n k m : Int} {d : Dk} (h : Li n k m d) (hk : k ≤ 1000) : appN (crash d 0 0 0 0) 1 ⟨#[121]⟩ = 0 := by
  have hl := h.len
  have hx : (⟨#[121]⟩ : ByteArray).size = 1 := rfl
  have hlen : (crash d 0 0 0 0).len 1 ≤ d.len 1 := by
    have hk := kept_le 0 d.l1
    show (keep1 d.s1 d.l1 0).size + (⟨#[]⟩ : ByteArray).size ≤ d.s1.size + d.l1.size
    rw [keep1_size, no_len]
    omega
  unfold appN useN
  rw [rdy1 _ (show (crash d 0 0 0 0).made = true from h.made)]
  have h2 : (crash d 0 0 0 0).dead = false := rfl
  have h3 : (crash d 0 0 0 0).left = -1 := rfl
  rw [h2, h3]
  rw [if_neg (show ¬ (1048576 < (crash d 0 0 0 0).len 1 + (⟨#[121]⟩ : ByteArray).size) by rw [hx]; omega)]
  rfl

/-- What the loop keeps. -/
structure LInv (b : Nat) (w0 : World) (n k m : Int) (w : World) : Prop where
  disk : ∃ d, Is b d w ∧ Li n k m d
  below : Below w0.heap.size w0 w
  size : b < w.heap.size
set_option maxRecDepth 100000 in
set_option maxHeartbeats 4000000 in
theorem Limits_any (n : Int) (A : Option Addr) (c : Nat) (l : List Ac) (w : World) (hn : i64b n) (hA : Acts A l w) (hl : l.length ≤ 2000000000000) :
    Calls Try.prog 8 #[.int .i64 n, .slice A l.length c] w fun e w' => e = .returned (.bool true) ∧ Below w.heap.size w w' := by
  go_enter Try.func8, Try.ntmps8
  go_wp2_with fail
  refine (New_any w).mono ?_; rintro e w1 ⟨rfl, h1, b1⟩
  go_wp2_with fail
  refine (Limit_any w.heap.size zero n w1 h1).mono ?_; rintro e w2 ⟨rfl, T2⟩
  have hli : Li n 0 0 { zero with left := n } := by
    obtain ⟨f0, f1, f2, f3, _⟩ := zero_fits
    unfold i64b at hn
    refine ⟨rfl, ⟨f0, f1, f2, f3, hn.2, hn.1⟩, by show ((⟨#[]⟩ : ByteArray).size + (⟨#[]⟩ : ByteArray).size : Int) ≤ 0; rw [no_len]; omega, by omega, by omega, .inl ⟨rfl, ?_⟩⟩
    show n < 0 ∧ n = n ∨ 0 ≤ n ∧ 0 ≤ n ∧ n = n - 0
    omega
  have B2 := b1.trans (T2.below _ (Nat.le_refl _))
  have I0 : LInv w.heap.size w n 0 0 w2 := ⟨⟨_, T2.is, hli⟩, B2, lt_of_block T2.is⟩
  clear hli T2 h1 b1
  go_wp2_with fail
  go_loopw [6, 7] (fun m i wr => ∃ k m' : Int, 0 ≤ k ∧ k ≤ l.length ∧ k ≤ 60 ∧ i = .int .i64 k ∧ m = .int .i64 m' ∧ LInv w.heap.size w n k m' wr) (fun m i _ => l.length - (intOf i).toNat)
  case atStart => exact ⟨0, 0, by omega, by omega, by omega, rfl, rfl, I0⟩
  case round =>
    obtain ⟨k, m, hk0, hkl, hk60, rfl, rfl, ⟨d, hd, hli⟩, B, hsz⟩ := hrel
    by_cases hlt : k < l.length
    · by_cases h60 : k < 60
      · obtain ⟨ad, rfl, hsp, hc⟩ := (hA.keep fun c hc => B.block c hc) k.toNat (by omega)
        have hc0 : wr.cell? (ad.add (k.toNat * 8)) = some (.int .i64 (l.getD k.toNat default).kind) := hc 0 (by omega)
        generalize (l.getD k.toNat default).kind = kd at hc0
        clear hc hA
        have hm0 := hli.m0
        have hmk := hli.lek
        by_cases hpar : Int.tmod kd 2 = 0
        · go_wp2_with fail
          refine (Append_any w.heap.size d 1 ⟨#[120]⟩ _ hd hli.fits).mono ?_; rintro e w3 ⟨rfl, T3⟩
          have B3 := B.trans (T3.below _ (Nat.le_refl _))
          have s3 := lt_of_block T3.is
          rcases app_st hli (by omega) with ⟨e1, L1, c1⟩ | ⟨e1, L1, c1⟩
          · have I3 : LInv w.heap.size w n (k + 1) (m + 1) w3 := ⟨⟨_, T3.is, L1⟩, B3, s3⟩
            rw [e1]
            clear T3 L1 B3 s3 hc0 hd hli B I0 B2 hsp e1
            by_cases hn0 : n < 0
            · go_wp2
              exact ⟨⟨k + 1, m + 1, by omega, by omega, by omega, rfl, by go_num, I3⟩, by simp [intOf]; omega⟩
            · have c2 : m < n := by omega
              go_wp2
              exact ⟨⟨k + 1, m + 1, by omega, by omega, by omega, rfl, by go_num, I3⟩, by simp [intOf]; omega⟩
          · have I3 : LInv w.heap.size w n (k + 1) m w3 := ⟨⟨_, T3.is, L1⟩, B3, s3⟩
            have hn0 : ¬ n < 0 := by omega
            have c2 : ¬ m < n := by omega
            rw [e1]
            clear T3 L1 B3 s3 hc0 hd hli B I0 B2 hsp e1 c1
            go_wp2
            exact ⟨⟨k + 1, m, by omega, by omega, by omega, rfl, rfl, I3⟩, by simp [intOf]; omega⟩
        · go_wp2_with fail
          refine (Sync_any w.heap.size d 1 _ hd hli.fits).mono ?_; rintro e w3 ⟨rfl, T3⟩
          have B3 := B.trans (T3.below _ (Nat.le_refl _))
          have s3 := lt_of_block T3.is
          rcases syn_st hli (by omega) with ⟨e1, L1, c1⟩ | ⟨e1, L1, c1⟩
          · have I3 : LInv w.heap.size w n (k + 1) (m + 1) w3 := ⟨⟨_, T3.is, L1⟩, B3, s3⟩
            rw [e1]
            clear T3 L1 B3 s3 hc0 hd hli B I0 B2 hsp e1
            by_cases hn0 : n < 0
            · go_wp2
              exact ⟨⟨k + 1, m + 1, by omega, by omega, by omega, rfl, by go_num, I3⟩, by simp [intOf]; omega⟩
            · have c2 : m < n := by omega
              go_wp2
              exact ⟨⟨k + 1, m + 1, by omega, by omega, by omega, rfl, by go_num, I3⟩, by simp [intOf]; omega⟩
          · have I3 : LInv w.heap.size w n (k + 1) m w3 := ⟨⟨_, T3.is, L1⟩, B3, s3⟩
            have hn0 : ¬ n < 0 := by omega
            have c2 : ¬ m < n := by omega
            rw [e1]
            clear T3 L1 B3 s3 hc0 hd hli B I0 B2 hsp e1 c1
            go_wp2
            exact ⟨⟨k + 1, m, by omega, by omega, by omega, rfl, rfl, I3⟩, by simp [intOf]; omega⟩
      · have hm0 := hli.m0
        have hmk := hli.lek
        have hcr := last_ok hli (by omega)
        go_wp2_with fail
        refine (Crash_made w.heap.size d 0 0 0 0 _ hd hli.fits hli.made).mono ?_; rintro e w4 ⟨rfl, T4⟩
        go_wp2_with fail
        refine (Append_any w.heap.size (crash d 0 0 0 0) 1 ⟨#[121]⟩ _ T4.is (crash_fits hli.fits 0 0 0 0)).mono ?_; rintro e w5 ⟨rfl, T5⟩
        rw [hcr]
        go_wp2_with fail
        refine (awake_any _).mono ?_; rintro e w6 ⟨rfl, B6⟩
        go_wp2
        go_ret
        exact ⟨rfl, ((B.trans (T4.below _ (Nat.le_refl _))).trans (T5.below _ (Nat.le_refl _))).trans (B6.mono (Nat.le_of_lt (lt_of_block T5.is)))⟩
    · have hm0 := hli.m0
      have hmk := hli.lek
      have hcr := last_ok hli (by omega)
      go_wp2_with fail
      refine (Crash_made w.heap.size d 0 0 0 0 _ hd hli.fits hli.made).mono ?_; rintro e w4 ⟨rfl, T4⟩
      go_wp2_with fail
      refine (Append_any w.heap.size (crash d 0 0 0 0) 1 ⟨#[121]⟩ _ T4.is (crash_fits hli.fits 0 0 0 0)).mono ?_; rintro e w5 ⟨rfl, T5⟩
      rw [hcr]
      go_wp2_with fail
      refine (awake_any _).mono ?_; rintro e w6 ⟨rfl, B6⟩
      go_wp2
      go_ret
      exact ⟨rfl, ((B.trans (T4.below _ (Nat.le_refl _))).trans (T5.below _ (Nat.le_refl _))).trans (B6.mono (Nat.le_of_lt (lt_of_block T5.is)))⟩
end Go.Proofs.Ytejfdiiennnjjaa.D
