/- The sum of 32 bits, as a register of bits that is stepped; what the printed sums of the program and of the document come to, for every text. -/
import Derived.Test.YtejfdiiennnjjaaFx
import Derived.Lib.Strings
import Derived.Laws.BitsLemmas
namespace Go.Proofs.Ytejfdiiennnjjaa.Facts
open Go.RowKit Go.Proofs.Ytejfdiiennnjjaa.F Go.Proofs.YtejfdiiennnjjaaW.PrintWords Go.Proofs.YtejfdiiennnjjaaW.PrintLast Go.Proofs.YtejfdiiennnjjaaW.PrintMore
set_option linter.unusedVariables false

/-- The bytes of a text. -/
def L (s : ByteArray) : List UInt8 := s.data.toList
theorem L_len (s : ByteArray) : (L s).length = s.size := by simp [L]
theorem L_ext {s t : ByteArray} (h : L s = L t) : s = t := by
  cases s; cases t; congr 1; exact Array.toList_inj.1 h
theorem toList_L (s : ByteArray) : s.toList = L s := Lib.toList_data s
theorem bt_L (s : ByteArray) (i : Nat) (h : i < (L s).length) : bt s (i : Int) = ((L s)[i].toNat : Int) := by
  have h' : i < s.size := by rw [← L_len]; exact h
  unfold bt
  rw [dif_pos (by simpa using h')]
  congr 2
theorem bt_L' (s : ByteArray) (i : Nat) (c : UInt8) (r : List UInt8) (h : (L s).drop i = c :: r) : i < s.size ∧ bt s (i : Int) = (c.toNat : Int) ∧ (L s).drop (i + 1) = r := by
  have hi : i < (L s).length := by
    rcases Nat.lt_or_ge i (L s).length with h' | h'
    · exact h'
    · rw [List.drop_eq_nil_of_le h'] at h; cases h
  rw [List.drop_eq_getElem_cons hi] at h
  injection h with h1 h2
  exact ⟨by rw [← L_len]; exact hi, by rw [bt_L s i hi, h1], h2⟩
theorem w64 {i : Int} (h0 : -9223372036854775808 ≤ i) (h1 : i ≤ 9223372036854775807) : wrap64 i = i := by
  unfold wrap64; omega
theorem L_append (s t : ByteArray) : L (s ++ t) = L s ++ L t := by simp [L]
theorem L_extract (s : ByteArray) (i j : Nat) : L (s.extract i j) = ((L s).take j).drop i := by
  simp [L, ByteArray.data_extract, List.drop_take]
theorem L_nums (xs : List Int) : L (strOfNums xs) = xs.map fun n => UInt8.ofNat n.toNat := rfl
def S (l : List UInt8) : ByteArray := ⟨l.toArray⟩
theorem L_S (l : List UInt8) : L (S l) = l := by simp [L, S]
theorem S_size (l : List UInt8) : (S l).size = l.length := by simp [S, ByteArray.size]
theorem S_L (s : ByteArray) : S (L s) = s := L_ext (L_S _)
theorem eq_S {s : ByteArray} {l : List UInt8} (h : L s = l) : s = S l := by rw [← h, S_L]
theorem toList_S (l : List UInt8) : (S l).toList = l := by rw [toList_L, L_S]

/-! ### The register -/
def poly : BitVec 32 := 3988292384#32
def stepB (r : BitVec 32) : BitVec 32 := if r.getLsbD 0 = true then (r >>> 1) ^^^ poly else r >>> 1
def steps : Nat → BitVec 32 → BitVec 32
  | 0, r => r
  | n + 1, r => steps n (stepB r)
def byteB (r : BitVec 32) (c : UInt8) : BitVec 32 := steps 8 (r ^^^ BitVec.ofNat 32 c.toNat)
def crc (l : List UInt8) : BitVec 32 := l.foldl byteB 4294967295#32
/-- The sum of a text. -/
def sumN (l : List UInt8) : Nat := (~~~ crc l).toNat

def RV (r : BitVec 32) : Int := (r.toNat : Int)
theorem R_range (r : BitVec 32) : 0 ≤ RV r ∧ RV r ≤ 4294967295 := by have := r.isLt; unfold RV; omega
theorem wrap_R (r : BitVec 32) : IntKind.u32.wrap (r.toNat : Int) = RV r := by
  have := r.isLt
  rw [IntKind.wrap_u32]; unfold RV; omega
theorem ofInt_R (r : BitVec 32) : BitVec.ofInt 32 (RV r) = r := by
  unfold RV
  rw [BitVec.ofInt_natCast]; simp
theorem xor_R (r q : BitVec 32) : Go.bits .xor .u32 (RV r) (RV q) = RV (r ^^^ q) := by
  show IntKind.u32.wrap ((BitVec.ofInt 32 (RV r) ^^^ BitVec.ofInt 32 (RV q)).toNat : Int) = _
  rw [ofInt_R, ofInt_R, wrap_R]
theorem and_R (r q : BitVec 32) : Go.bits .and .u32 (RV r) (RV q) = RV (r &&& q) := by
  show IntKind.u32.wrap ((BitVec.ofInt 32 (RV r) &&& BitVec.ofInt 32 (RV q)).toNat : Int) = _
  rw [ofInt_R, ofInt_R, wrap_R]
theorem R_inj {r q : BitVec 32} (h : RV r = RV q) : r = q := by
  apply BitVec.eq_of_toNat_eq; unfold RV at h; omega
theorem shr_R (r : BitVec 32) : RV r / (2 : Int) = RV (r >>> 1) := by
  unfold RV
  rw [BitVec.toNat_ushiftRight, Nat.shiftRight_eq_div_pow]; omega
theorem lsb_R (r : BitVec 32) : (RV r % (2 : Int) = (1 : Int)) ↔ r.getLsbD 0 = true := by
  unfold RV
  rw [BitVec.getLsbD, Nat.testBit_zero, decide_eq_true_eq]; omega
theorem and1_R (r : BitVec 32) : (Go.bits .and .u32 (RV r) 1 = 1) ↔ r.getLsbD 0 = true := by
  have h1 : (1 : Int) = RV 1#32 := rfl
  rw [h1, and_R, ← lsb_R]
  have e : (r &&& 1#32).toNat = r.toNat % 2 := by
    rw [BitVec.toNat_and]; exact Nat.and_one_is_mod _
  have e2 : RV (r &&& 1#32) = RV r % (2 : Int) := by unfold RV; rw [e]; omega
  rw [e2]; rfl
theorem not_R (r : BitVec 32) : ((4294967295 : Int) - RV r) % (4294967296 : Int) = RV (~~~ r) := by
  have := r.isLt
  unfold RV
  rw [BitVec.toNat_not]; omega
theorem notx_R (r : BitVec 32) : Go.bits .xor .u32 IntKind.u32.max (RV r) = RV (~~~ r) := by
  have h : IntKind.u32.max = RV 4294967295#32 := rfl
  rw [h, xor_R]
  congr 1
theorem byte_R (c : UInt8) : (c.toNat : Int) = RV (BitVec.ofNat 32 c.toNat) := by
  have := c.toNat_lt
  unfold RV
  rw [BitVec.toNat_ofNat]; omega

theorem steps_succ (n : Nat) (r : BitVec 32) : steps (n + 1) r = steps n (stepB r) := rfl

theorem frame_l1 (s : ByteArray) (n j : Int) (out : Int) : ∀ (d : Nat) (i : Int) (r : BitVec 32), i + d = 8 → 0 ≤ i → 
    Ev (fun k => frame_Sum.l0 k s (RV (steps d r)) n (wrap64 (j + 1))) out → Ev (fun k => frame_Sum.l1 k s (RV r) n j i) out := by
  intro d
  induction d with
  | zero =>
    intro i r h h0 ho
    refine Ev.step (f := fun k => frame_Sum.l0 k s (RV r) n (wrap64 (j + 1))) (fun k => ?_) ho
    rw [frame_Sum.l1, if_neg (by omega)]
  | succ d ih =>
    intro i r h h0 ho
    rw [steps_succ] at ho
    refine Ev.step (f := fun k => frame_Sum.l1 k s (RV (stepB r)) n j (i + 1)) (fun k => ?_) (ih (i + 1) _ (by push_cast at h; omega) (by omega) ho)
    rw [frame_Sum.l1, if_pos (by omega), w64 (by omega) (by omega)]
    unfold stepB
    by_cases hb : r.getLsbD 0 = true
    · rw [if_pos ((and1_R r).2 hb), if_pos hb, shr_R, show (3988292384 : Int) = RV poly from rfl, xor_R]
    · rw [if_neg (fun h => hb ((and1_R r).1 h)), if_neg hb, shr_R]

theorem frame_l0 (s : ByteArray) (hn : s.size ≤ 140737488351232) : ∀ (rest : List UInt8) (i : Nat) (r : BitVec 32), (L s).drop i = rest → i ≤ s.size →
    Ev (fun k => frame_Sum.l0 k s (RV r) (s.size : Int) (i : Int)) (RV (~~~ (rest.foldl byteB r))) := by
  intro rest
  induction rest with
  | nil =>
    intro i r h hi
    have hi' : s.size ≤ i := by rw [← L_len]; exact List.drop_eq_nil_iff.1 h
    refine Ev.step (f := fun _ => some (RV (~~~ r))) (fun k => ?_) (Ev.now _)
    rw [frame_Sum.l0, if_neg (by omega), ← notx_R]
  | cons c rest ih =>
    intro i r h hi
    obtain ⟨hlt, hc, hr⟩ := bt_L' s i c rest h
    have hcl := c.toNat_lt
    have hw : wrap64 ((i : Int) + 1) = ((i + 1 : Nat) : Int) := by rw [w64 (by omega) (by omega)]; push_cast; rfl
    refine Ev.step (f := fun k => frame_Sum.l1 k s (RV (r ^^^ BitVec.ofNat 32 c.toNat)) (s.size : Int) (i : Int) 0) (fun k => ?_) ?_
    · rw [frame_Sum.l0, if_pos (by omega), if_pos (by omega), if_pos (by omega), hc, show (c.toNat : Int) % (4294967296 : Int) = (c.toNat : Int) by omega, byte_R, xor_R]
    · refine frame_l1 s _ _ _ 8 0 _ (by omega) (by omega) ?_
      rw [hw]
      exact ih (i + 1) _ hr (by omega)

theorem Sum_ev (s : ByteArray) (hn : s.size ≤ 140737488351232) : Ev (fun k => frame_Sum.f k s) (sumN (L s) : Int) :=
  frame_l0 s hn (L s) 0 4294967295#32 (by simp) (by omega)

theorem ref_l1 (s : ByteArray) (j : Int) (out : Int) : ∀ (d : Nat) (i : Int) (r : BitVec 32), i + d = 8 → 0 ≤ i → 
    Ev (fun k => lombardref07_Sum.l0 k s (RV (steps d r)) (wrap64 (j + 1))) out → Ev (fun k => lombardref07_Sum.l1 k s (RV r) j i) out := by
  intro d
  induction d with
  | zero =>
    intro i r h h0 ho
    refine Ev.step (f := fun k => lombardref07_Sum.l0 k s (RV r) (wrap64 (j + 1))) (fun k => ?_) ho
    rw [lombardref07_Sum.l1, if_neg (by omega)]
  | succ d ih =>
    intro i r h h0 ho
    have hr := R_range r
    have hsh := R_range (r >>> 1)
    have e : Int.tdiv (RV r) (2 : Int) % (4294967296 : Int) = RV (r >>> 1) := by
      rw [Int.tdiv_eq_ediv_of_nonneg hr.1, shr_R]; omega
    rw [steps_succ] at ho
    refine Ev.step (f := fun k => lombardref07_Sum.l1 k s (RV (stepB r)) j (i + 1)) (fun k => ?_) (ih (i + 1) _ (by push_cast at h; omega) (by omega) ho)
    rw [lombardref07_Sum.l1, if_pos (by omega), w64 (by omega) (by omega), Int.tmod_eq_emod_of_nonneg hr.1, e]
    unfold stepB
    by_cases hb : r.getLsbD 0 = true
    · rw [if_pos ((lsb_R r).2 hb), if_pos hb, show (3988292384 : Int) = RV poly from rfl, xor_R]
    · rw [if_neg (fun h => hb ((lsb_R r).1 h)), if_neg hb]

theorem ref_l0 (s : ByteArray) (hn : s.size ≤ 140737488351232) : ∀ (rest : List UInt8) (i : Nat) (r : BitVec 32), (L s).drop i = rest → i ≤ s.size →
    Ev (fun k => lombardref07_Sum.l0 k s (RV r) (i : Int)) (RV (~~~ (rest.foldl byteB r))) := by
  intro rest
  induction rest with
  | nil =>
    intro i r h hi
    have hi' : s.size ≤ i := by rw [← L_len]; exact List.drop_eq_nil_iff.1 h
    refine Ev.step (f := fun _ => some (RV (~~~ r))) (fun k => ?_) (Ev.now _)
    rw [lombardref07_Sum.l0, if_neg (by omega), not_R]
  | cons c rest ih =>
    intro i r h hi
    obtain ⟨hlt, hc, hr⟩ := bt_L' s i c rest h
    have hcl := c.toNat_lt
    have hw : wrap64 ((i : Int) + 1) = ((i + 1 : Nat) : Int) := by rw [w64 (by omega) (by omega)]; push_cast; rfl
    refine Ev.step (f := fun k => lombardref07_Sum.l1 k s (RV (r ^^^ BitVec.ofNat 32 c.toNat)) (i : Int) 0) (fun k => ?_) ?_
    · rw [lombardref07_Sum.l0, if_pos (by omega), if_pos (by omega), hc, show (c.toNat : Int) % (4294967296 : Int) = (c.toNat : Int) by omega, byte_R, xor_R]
    · refine ref_l1 s _ _ 8 0 _ (by omega) (by omega) ?_
      rw [hw]
      exact ih (i + 1) _ hr (by omega)

theorem RSum_ev (s : ByteArray) (hn : s.size ≤ 140737488351232) : Ev (fun k => lombardref07_Sum.f k s) (sumN (L s) : Int) :=
  ref_l0 s hn (L s) 0 4294967295#32 (by simp) (by omega)

end Go.Proofs.Ytejfdiiennnjjaa.Facts
