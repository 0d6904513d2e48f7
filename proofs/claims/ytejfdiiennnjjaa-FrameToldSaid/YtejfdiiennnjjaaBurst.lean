/- The register that is stepped bit by bit: bits that are turned within 32 neighbouring ones turn the register. -/
import Derived.Test.YtejfdiiennnjjaaFrE
namespace Go.Proofs.Ytejfdiiennnjjaa.Facts
open Go.RowKit Go.Proofs.Ytejfdiiennnjjaa.F Go.Proofs.YtejfdiiennnjjaaW.PrintWords Go.Proofs.YtejfdiiennnjjaaW.PrintLast Go.Proofs.YtejfdiiennnjjaaW.PrintMore Go.Proofs.Ytejfdiiennnjjaa
set_option linter.unusedVariables false

/-! ### One step -/
theorem lsb_xor (x y : BitVec 32) : (x ^^^ y).getLsbD 0 = (x.getLsbD 0 ^^ y.getLsbD 0) := by rw [BitVec.getLsbD_xor]
theorem stepB_xor (x y : BitVec 32) : stepB (x ^^^ y) = stepB x ^^^ stepB y := by
  unfold stepB
  rw [lsb_xor, BitVec.ushiftRight_xor_distrib]
  cases hx : x.getLsbD 0 <;> cases hy : y.getLsbD 0
  · simp
  · simp [BitVec.xor_assoc]
  · simp only [Bool.bne_false, if_true]
    simp
    rw [BitVec.xor_assoc, BitVec.xor_comm (y >>> 1), ← BitVec.xor_assoc]
  · simp only [Bool.xor_self]
    simp
    rw [BitVec.xor_assoc, BitVec.xor_comm poly, BitVec.xor_assoc (y >>> 1), BitVec.xor_self, BitVec.xor_zero]
theorem steps_xor (n : Nat) : ∀ x y : BitVec 32, steps n (x ^^^ y) = steps n x ^^^ steps n y := by
  induction n with
  | zero => intro x y; rfl
  | succ n ih => intro x y; rw [steps_succ, steps_succ, steps_succ, stepB_xor, ih]
theorem stepB_zero : stepB 0#32 = 0#32 := by decide
theorem steps_zero (n : Nat) : steps n 0#32 = 0#32 := by
  induction n with
  | zero => rfl
  | succ n ih => rw [steps_succ, stepB_zero, ih]
theorem stepB_eq_zero (x : BitVec 32) (h : stepB x = 0#32) : x = 0#32 := by
  unfold stepB at h
  cases hx : x.getLsbD 0
  · rw [hx, if_neg (by simp)] at h
    apply BitVec.eq_of_getLsbD_eq
    intro i hi
    cases i with
    | zero => rw [hx]; simp
    | succ i =>
      have := congrArg (fun v : BitVec 32 => v.getLsbD i) h
      simp only [BitVec.getLsbD_ushiftRight] at this
      rw [Nat.add_comm] at this
      rw [this]; simp
  · rw [hx, if_pos rfl] at h
    have := congrArg (fun v : BitVec 32 => v.getLsbD 31) h
    simp only [BitVec.getLsbD_xor, BitVec.getLsbD_ushiftRight] at this
    have e1 : x.getLsbD (1 + 31) = false := BitVec.getLsbD_of_ge x _ (by omega)
    have e2 : poly.getLsbD 31 = true := by decide
    rw [e1, e2] at this
    simp at this
theorem steps_eq_zero (n : Nat) : ∀ x : BitVec 32, steps n x = 0#32 → x = 0#32 := by
  induction n with
  | zero => intro x h; exact h
  | succ n ih => intro x h; rw [steps_succ] at h; exact stepB_eq_zero x (ih _ h)
theorem steps_add (m : Nat) : ∀ (n : Nat) (x : BitVec 32), steps (m + n) x = steps n (steps m x) := by
  induction m with
  | zero => intro n x; rw [Nat.zero_add]; rfl
  | succ m ih => intro n x; rw [Nat.succ_add_eq_add_succ, Nat.add_succ, steps_succ, steps_succ, ih]

/-! ### Bit by bit -/
def bv (b : Bool) : BitVec 32 := if b = true then 1#32 else 0#32
def serial : BitVec 32 → List Bool → BitVec 32
  | r, [] => r
  | r, u :: us => serial (stepB (r ^^^ bv u)) us
theorem bv_xor (a b : Bool) : bv (a ^^ b) = bv a ^^^ bv b := by cases a <;> cases b <;> decide
theorem serial_append (us : List Bool) : ∀ (r : BitVec 32) (vs : List Bool), serial r (us ++ vs) = serial (serial r us) vs := by
  induction us with
  | nil => intro r vs; rfl
  | cons u us ih => intro r vs; exact ih _ _
theorem serial_xor (us : List Bool) : ∀ (r q : BitVec 32) (vs : List Bool), us.length = vs.length → serial (r ^^^ q) (List.zipWith xor us vs) = serial r us ^^^ serial q vs := by
  induction us with
  | nil => intro r q vs h; cases vs with
    | nil => rfl
    | cons v vs => simp at h
  | cons u us ih => intro r q vs h; cases vs with
    | nil => simp at h
    | cons v vs =>
      rw [List.zipWith_cons_cons]
      show serial (stepB (r ^^^ q ^^^ bv (u ^^ v))) _ = serial (stepB (r ^^^ bv u)) us ^^^ serial (stepB (q ^^^ bv v)) vs
      rw [← ih _ _ vs (by simpa using h), bv_xor, ← stepB_xor]
      congr 2
      rw [BitVec.xor_assoc, BitVec.xor_assoc, ← BitVec.xor_assoc q, BitVec.xor_comm q, BitVec.xor_assoc (bv u)]

/-- Up to 32 bits at once. -/
def val : List Bool → BitVec 32
  | [] => 0#32
  | u :: us => bv u ^^^ (val us <<< 1)
theorem val_high (us : List Bool) : ∀ i, us.length ≤ i → (val us).getLsbD i = false := by
  induction us with
  | nil => intro i _; simp [val]
  | cons u us ih =>
    intro i h
    have h1 : 1 ≤ i := by simp at h; omega
    unfold val
    rw [BitVec.getLsbD_xor, BitVec.getLsbD_shiftLeft, ih (i - 1) (by simp at h; omega)]
    have : (bv u).getLsbD i = false := by
      unfold bv
      split
      · rw [BitVec.getLsbD_one]; simp; omega
      · simp
    rw [this]; simp
theorem stepB_shl (x : BitVec 32) (h : x.getLsbD 31 = false) : stepB (x <<< 1) = x := by
  unfold stepB
  have : (x <<< 1).getLsbD 0 = false := by rw [BitVec.getLsbD_shiftLeft]; simp
  rw [this, if_neg (by simp)]
  apply BitVec.eq_of_getLsbD_eq
  intro i hi
  rw [BitVec.getLsbD_ushiftRight, BitVec.getLsbD_shiftLeft]
  by_cases h31 : i = 31
  · subst h31; rw [h]; simp
  · have : decide (1 + i < 32) = true := decide_eq_true (by omega)
    rw [this]; simp
theorem serial_val (us : List Bool) : ∀ r : BitVec 32, us.length ≤ 32 → serial r us = steps us.length (r ^^^ val us) := by
  induction us with
  | nil => intro r _; show r = r ^^^ 0#32; rw [BitVec.xor_zero]
  | cons u us ih =>
    intro r h
    have h' : us.length ≤ 31 := by simp at h; omega
    show serial (stepB (r ^^^ bv u)) us = steps (us.length + 1) (r ^^^ (bv u ^^^ (val us <<< 1)))
    rw [ih _ (by omega), steps_succ, ← BitVec.xor_assoc, stepB_xor (r ^^^ bv u), stepB_shl _ (val_high us 31 h')]
theorem val_zero (us : List Bool) (hl : us.length ≤ 32) (h : val us = 0#32) : ∀ u ∈ us, u = false := by
  induction us with
  | nil => intro u hu; cases hu
  | cons u us ih =>
    have h' : us.length ≤ 31 := by simp at hl; omega
    unfold val at h
    have h0 := congrArg (fun v : BitVec 32 => v.getLsbD 0) h
    simp only [BitVec.getLsbD_xor, BitVec.getLsbD_shiftLeft] at h0
    have hu : u = false := by
      cases u
      · rfl
      · simp [bv] at h0
    subst hu
    have h2 : val us = 0#32 := by
      have e : val us <<< 1 = 0#32 := by rw [← h, show bv false = 0#32 from rfl, BitVec.zero_xor]
      rw [← stepB_shl (val us) (val_high us 31 h'), e, stepB_zero]
    intro w hw
    rcases List.mem_cons.1 hw with rfl | hw
    · rfl
    · exact ih (by omega) h2 w hw
theorem serial_falses (n : Nat) : ∀ r : BitVec 32, serial r (List.replicate n false) = steps n r := by
  induction n with
  | zero => intro r; rfl
  | succ n ih =>
    intro r
    rw [List.replicate_succ]
    show serial (stepB (r ^^^ bv false)) _ = _
    rw [ih, show bv false = 0#32 from rfl, BitVec.xor_zero]; rfl
/-- A burst of at most 32 bits, some of them turned, is told. -/
theorem burst (p q : Nat) (us : List Bool) (hl : us.length ≤ 32) (h : true ∈ us) : serial 0#32 (List.replicate p false ++ (us ++ List.replicate q false)) ≠ 0#32 := by
  intro h0
  rw [serial_append, serial_append, serial_falses, serial_falses, steps_zero] at h0
  have h1 := steps_eq_zero q _ h0
  rw [serial_val us 0#32 hl, BitVec.zero_xor] at h1
  have h2 := steps_eq_zero us.length _ h1
  exact absurd (val_zero us hl h2 true h) (by simp)

/-! ### Bytes as bits -/
def bits8 (c : UInt8) : List Bool := (List.range 8).map fun j => c.toNat.testBit j
def bitsL (l : List UInt8) : List Bool := l.flatMap bits8
theorem bits8_len (c : UInt8) : (bits8 c).length = 8 := by simp [bits8]
theorem bitsL_len (l : List UInt8) : (bitsL l).length = 8 * l.length := by
  induction l with
  | nil => rfl
  | cons c l ih => rw [bitsL, List.flatMap_cons, List.length_append, bits8_len]; show 8 + (bitsL l).length = _; rw [ih, List.length_cons]; omega
theorem val_bits8_nat : ∀ n : Fin 256, val ((List.range 8).map fun j => n.val.testBit j) = BitVec.ofNat 32 n.val := by decide +kernel
theorem val_bits8 (c : UInt8) : val (bits8 c) = BitVec.ofNat 32 c.toNat := val_bits8_nat ⟨c.toNat, c.toNat_lt⟩
theorem byteB_serial (r : BitVec 32) (c : UInt8) : byteB r c = serial r (bits8 c) := by
  rw [serial_val _ _ (by rw [bits8_len]; omega), bits8_len, val_bits8]; rfl
theorem fold_serial (l : List UInt8) : ∀ r : BitVec 32, l.foldl byteB r = serial r (bitsL l) := by
  induction l with
  | nil => intro r; rfl
  | cons c l ih =>
    intro r
    rw [List.foldl_cons, ih, byteB_serial, ← serial_append]; rfl

/-- Behind a text and its sum the register is always the same. -/
theorem val_append (us : List Bool) : ∀ vs : List Bool, us.length + vs.length ≤ 32 → val (us ++ vs) = val us ^^^ (val vs <<< us.length) := by
  induction us with
  | nil => intro vs _; show val vs = 0#32 ^^^ (val vs <<< 0); rw [BitVec.zero_xor, BitVec.shiftLeft_zero]
  | cons u us ih =>
    intro vs h
    show bv u ^^^ (val (us ++ vs) <<< 1) = (bv u ^^^ (val us <<< 1)) ^^^ (val vs <<< (us.length + 1))
    rw [ih vs (by simp at h; omega), BitVec.shiftLeft_xor_distrib, ← BitVec.shiftLeft_add, BitVec.xor_assoc]
end Go.Proofs.Ytejfdiiennnjjaa.Facts
