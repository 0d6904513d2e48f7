/- What the printed functions of package isin and of the document's answer come to, in plain words over lists of bytes. -/
import Derived.Test.YtabnpmojccepcaaIx
import Derived.Lib.Strings
namespace Go.Proofs.Ytabnpmojccepcaa.Facts
open Go.RowKit Go.Proofs.Ytabnpmojccepcaa.I Go.Proofs.YtabnpmojccepcaaW.PrintWords Go.Proofs.YtabnpmojccepcaaW.PrintLast Go.Proofs.YtabnpmojccepcaaW.PrintMore Go.Proofs.Ytabnpmojccepcaa
set_option linter.unusedVariables false

/-- The bytes of a text. -/
def L (s : ByteArray) : List UInt8 := s.data.toList
theorem L_len (s : ByteArray) : (L s).length = s.size := by simp [L]
theorem L_ext {s t : ByteArray} (h : L s = L t) : s = t := by
  cases s; cases t; congr 1; exact Array.toList_inj.1 h
theorem toList_L (s : ByteArray) : s.toList = L s := by
  exact Lib.toList_data s
theorem bt_L (s : ByteArray) (i : Nat) (h : i < (L s).length) : bt s (i : Int) = ((L s)[i].toNat : Int) := by
  have h' : i < s.size := by rw [← L_len]; exact h
  unfold bt
  rw [dif_pos (by simpa using h')]
  congr 2
theorem bt_L' (s : ByteArray) (i : Nat) (c : UInt8) (r : List UInt8) (h : (L s).drop i = c :: r) : i < s.size ∧ bt s (i : Int) = (c.toNat : Int) ∧ (L s).drop (i + 1) = r := by
  have hi : i < (L s).length := by
    rcases Nat.lt_or_ge i (L s).length with h' | h'
    · exact h'
    · rw [List.drop_eq_nil_of_le h'] at h; cases h
  rw [List.drop_eq_getElem_cons hi] at h
  injection h with h1 h2
  exact ⟨by rw [← L_len]; exact hi, by rw [bt_L s i hi, h1], h2⟩
theorem w64 {i : Int} (h0 : -9223372036854775808 ≤ i) (h1 : i ≤ 9223372036854775807) : wrap64 i = i := by
  unfold wrap64; omega
theorem L_append (s t : ByteArray) : L (s ++ t) = L s ++ L t := by simp [L]
theorem L_extract (s : ByteArray) (i j : Nat) : L (s.extract i j) = ((L s).take j).drop i := by
  simp [L, ByteArray.data_extract, List.drop_take]
theorem L_nums (xs : List Int) : L (strOfNums xs) = xs.map fun n => UInt8.ofNat n.toNat := rfl

def isU (c : UInt8) : Bool := decide (65 ≤ c.toNat) && decide (c.toNat ≤ 90)
def isD (c : UInt8) : Bool := decide (48 ≤ c.toNat) && decide (c.toNat ≤ 57)
def okTail : List UInt8 → Nat → Bool
  | [], _ => true
  | c :: l, i => (isU c || (decide (2 ≤ i) && isD c)) && okTail l (i + 1)

theorem upper_eq (c : UInt8) : isin_upper.f (c.toNat : Int) = some (isU c) := by
  unfold isin_upper.f isU
  by_cases h : 65 ≤ c.toNat
  · rw [if_pos (by omega)]; simp [h]; omega
  · rw [if_neg (by omega)]; simp [h]
theorem digit_eq (c : UInt8) : isin_digit.f (c.toNat : Int) = some (isD c) := by
  unfold isin_digit.f isD
  by_cases h : 48 ≤ c.toNat
  · rw [if_pos (by omega)]; simp [h]; omega
  · rw [if_neg (by omega)]; simp [h]

theorem shape_l0 (s : ByteArray) (hn : s.size ≤ 140737488351232) : ∀ (r : List UInt8) (i : Nat), (L s).drop i = r → i ≤ s.size →
    Ev (fun k => isin_shape.l0 k s (s.size : Int) (i : Int)) (okTail r i && decide (s.size = 11)) := by
  intro r
  induction r with
  | nil =>
    intro i h hi
    have hi' : s.size ≤ i := by rw [← L_len]; exact List.drop_eq_nil_iff.1 h
    refine Ev.step (f := fun _ => some ((s.size : Int) == 11)) (fun k => ?_) ?_
    · rw [isin_shape.l0, if_neg (by omega)]
    · have : (((s.size : Int) == 11) : Bool) = (okTail [] i && decide (s.size = 11)) := by
        simp only [okTail, Bool.true_and]
        rw [Bool.eq_iff_iff]; simp; omega
      rw [← this]; exact Ev.now _
  | cons c r ih =>
    intro i h hi
    obtain ⟨hlt, hc, hr⟩ := bt_L' s i c r h
    have hw : wrap64 ((i : Int) + 1) = ((i + 1 : Nat) : Int) := by rw [w64 (by omega) (by omega)]; push_cast; rfl
    have ih' := ih (i + 1) hr (by omega)
    by_cases hu : isU c = true
    · refine Ev.step (f := fun k => isin_shape.l0 k s (s.size : Int) ((i + 1 : Nat) : Int)) (fun k => ?_) ?_
      · rw [isin_shape.l0, if_pos (by omega), if_pos (by omega), if_pos (by omega), hc, upper_eq, hu]
        simp only [Option.bind_some, if_true, hw]
      · simpa [okTail, hu] using ih'
    · have hu' : isU c = false := by simpa using hu
      by_cases h2 : 2 ≤ i
      · by_cases hd : isD c = true
        · refine Ev.step (f := fun k => isin_shape.l0 k s (s.size : Int) ((i + 1 : Nat) : Int)) (fun k => ?_) ?_
          · rw [isin_shape.l0, if_pos (by omega), if_pos (by omega), if_pos (by omega), hc, upper_eq, hu', digit_eq, hd]
            simp only [Option.bind_some, if_true, hw]
            rw [if_neg (by simp), if_neg (by omega)]
          · simpa [okTail, hu', hd, h2] using ih'
        · have hd' : isD c = false := by simpa using hd
          refine Ev.step (f := fun _ => some false) (fun k => ?_) ?_
          · rw [isin_shape.l0, if_pos (by omega), if_pos (by omega), if_pos (by omega), hc, upper_eq, hu', digit_eq, hd']
            simp only [Option.bind_some]
            rw [if_neg (by simp), if_neg (by omega), if_neg (by simp)]
          · simpa [okTail, hu', hd'] using Ev.now false
      · refine Ev.step (f := fun _ => some false) (fun k => ?_) ?_
        · rw [isin_shape.l0, if_pos (by omega), if_pos (by omega), if_pos (by omega), hc, upper_eq, hu']
          simp only [Option.bind_some]
          rw [if_neg (by simp), if_pos (by omega)]
        · simpa [okTail, hu', h2] using Ev.now false

/-- May that be the first eleven signs? -/
def shp (l : List UInt8) : Bool := okTail l 0 && decide (l.length = 11)
theorem shape_ev (s : ByteArray) (hn : s.size ≤ 140737488351232) : Ev (fun k => isin_shape.f k s) (shp (L s)) := by
  have := shape_l0 s hn (L s) 0 (by simp) (by omega)
  unfold shp
  rw [L_len]
  exact this

/-- The sum of eleven signs' digits, and the digit that makes it one of ten. -/
def T (l : List UInt8) : Int := (totFrom l true 0).1
theorem T_range (l : List UInt8) : 0 ≤ T l ∧ T l ≤ 52 * l.length := totFrom_range l true 0
def last (l : List UInt8) : Int := 48 + (10 - T l % 10) % 10
theorem last_range (l : List UInt8) : 48 ≤ last l ∧ last l ≤ 57 := by unfold last; omega

theorem Digit_ev (s : ByteArray) (hn : s.size ≤ 140737488351232) : Ev (fun k => isin_Digit.f k s) (if shp (L s) = true then (last (L s), 0) else (0, 11)) := by
  unfold isin_Digit.f
  refine Ev.bind (shape_ev s hn) ?_
  by_cases h : shp (L s) = true
  · simp only [h, if_true]
    refine Ev.congr (f := fun _ => some (last (L s), 0)) (fun k => ?_) (Ev.now _)
    rw [isin_total.f, if_pos hn]
    simp only [Option.bind_some]
    have hr := T_range (L s)
    rw [L_len] at hr
    show some ((wrap64 (48 + Int.tmod (wrap64 (10 - Int.tmod (T (L s)) 10)) 10)) % 256, 0) = _
    rw [Int.tmod_eq_emod_of_nonneg hr.1]
    rw [w64 (i := 10 - T (L s) % 10) (by omega) (by omega), Int.tmod_eq_emod_of_nonneg (by omega), w64 (by omega) (by omega)]
    unfold last
    congr 2
    omega
  · simp only [h]
    exact Ev.now _

end Go.Proofs.Ytabnpmojccepcaa.Facts
