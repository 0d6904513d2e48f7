/- A record, some among 32 neighbouring bits of which are turned, is read as none: the plain law, over lists of bytes. -/
import Derived.Test.YtejfdiiennnjjaaBurst
namespace Go.Proofs.Ytejfdiiennnjjaa.Facts
open Go.RowKit Go.Proofs.Ytejfdiiennnjjaa.F Go.Proofs.YtejfdiiennnjjaaW.PrintWords Go.Proofs.YtejfdiiennnjjaaW.PrintLast Go.Proofs.YtejfdiiennnjjaaW.PrintMore Go.Proofs.Ytejfdiiennnjjaa
set_option linter.unusedVariables false

/-- Bit j of a text. -/
def bitAt (l : List UInt8) (j : Nat) : Bool := (l.getD (j / 8) 0).toNat.testBit (j % 8)
theorem bits8_get (c : UInt8) (j : Nat) (h : j < 8) : (bits8 c).getD j false = c.toNat.testBit j := by
  unfold bits8
  rw [List.getD_eq_getElem?_getD, List.getElem?_map, List.getElem?_range h]; rfl
theorem bitsL_get (l : List UInt8) : ∀ j, j < 8 * l.length → (bitsL l).getD j false = bitAt l j := by
  induction l with
  | nil => intro j h; simp at h
  | cons c l ih =>
    intro j h
    have e : bitsL (c :: l) = bits8 c ++ bitsL l := by simp [bitsL]
    rw [e, List.getD_eq_getElem?_getD]
    by_cases h8 : j < 8
    · rw [List.getElem?_append_left (by rw [bits8_len]; exact h8), ← List.getD_eq_getElem?_getD, bits8_get c j h8]
      unfold bitAt
      rw [show j / 8 = 0 by omega, show j % 8 = j by omega]; rfl
    · rw [List.getElem?_append_right (by rw [bits8_len]; omega), bits8_len, ← List.getD_eq_getElem?_getD, ih (j - 8) (by simp at h; omega)]
      unfold bitAt
      rw [show j / 8 = (j - 8) / 8 + 1 by omega, show j % 8 = (j - 8) % 8 by omega]; rfl
theorem val_get (us : List Bool) : us.length ≤ 32 → ∀ i, (val us).getLsbD i = us.getD i false := by
  induction us with
  | nil => intro _ i; simp [val]
  | cons u us ih =>
    intro h i
    have h' : us.length ≤ 31 := by simp at h; omega
    unfold val
    rw [BitVec.getLsbD_xor, BitVec.getLsbD_shiftLeft]
    cases i with
    | zero => cases u <;> simp [bv]
    | succ i =>
      have hb : (bv u).getLsbD (i + 1) = false := by unfold bv; split <;> simp
      rw [hb, ih (by omega) (i + 1 - 1), Nat.add_sub_cancel]
      have : (u :: us).getD (i + 1) false = us.getD i false := rfl
      rw [this]
      by_cases hi : i + 1 < 32
      · rw [decide_eq_true hi, decide_eq_false (by omega)]; simp
      · rw [decide_eq_false hi]
        rw [List.getD_eq_getElem?_getD, List.getElem?_eq_none (by omega)]; simp
theorem byte_bit (n q r : Nat) (h : r < 8) : (UInt8.ofNat (n / 2 ^ q % 256)).toNat.testBit r = n.testBit (q + r) := by
  rw [ofNat_toNat8 _ (by omega), show (256 : Nat) = 2 ^ 8 from rfl, Nat.testBit_mod_two_pow, decide_eq_true h, Bool.true_and, Nat.testBit_div_two_pow, Nat.add_comm]
theorem fourL_bit (n j : Nat) (h : j < 32) : bitAt (fourL n) j = n.testBit j := by
  unfold bitAt fourL
  rcases (show j / 8 = 0 ∨ j / 8 = 1 ∨ j / 8 = 2 ∨ j / 8 = 3 by omega) with e | e | e | e
  · rw [e]
    have := byte_bit n 0 (j % 8) (by omega)
    rw [show n / 2 ^ 0 = n by omega, show 0 + j % 8 = j by omega] at this
    exact this
  · rw [e]
    have := byte_bit n 8 (j % 8) (by omega)
    rw [show (2 : Nat) ^ 8 = 256 from rfl, show 8 + j % 8 = j by omega] at this
    exact this
  · rw [e]
    have := byte_bit n 16 (j % 8) (by omega)
    rw [show (2 : Nat) ^ 16 = 65536 from rfl, show 16 + j % 8 = j by omega] at this
    exact this
  · rw [e]
    have := byte_bit n 24 (j % 8) (by omega)
    rw [show (2 : Nat) ^ 24 = 16777216 from rfl, show 24 + j % 8 = j by omega] at this
    exact this
theorem val_fourL (v : BitVec 32) : val (bitsL (fourL v.toNat)) = v := by
  apply BitVec.eq_of_getLsbD_eq
  intro i hi
  rw [val_get _ (by rw [bitsL_len, fourL_len]; omega), bitsL_get _ _ (by rw [fourL_len]; omega), fourL_bit _ _ hi]
  rfl
/-- Behind a text and its sum the register is always the same. -/
theorem residue (r : List UInt8) : (r ++ fourL (sumN r)).foldl byteB 4294967295#32 = steps 32 (BitVec.allOnes 32) := by
  rw [List.foldl_append, fold_serial (fourL (sumN r)), serial_val _ _ (by rw [bitsL_len, fourL_len]; omega), bitsL_len, fourL_len]
  show steps 32 (crc r ^^^ val (bitsL (fourL (~~~ crc r).toNat))) = _
  rw [val_fourL]
  congr 1
  rw [← BitVec.allOnes_xor, BitVec.xor_comm (BitVec.allOnes 32), ← BitVec.xor_assoc, BitVec.xor_self, BitVec.zero_xor]

theorem falses (l : List Bool) (h : ∀ x ∈ l, x = false) : l = List.replicate l.length false := List.eq_replicate_iff.2 ⟨rfl, h⟩
theorem burst_at (E : List Bool) (p : Nat) (hz : ∀ j, E.getD j false = true → p ≤ j ∧ j < p + 32) (ht : true ∈ E) : serial 0#32 E ≠ 0#32 := by
  have e : E = E.take p ++ ((E.drop p).take 32 ++ E.drop (p + 32)) := by
    rw [← List.drop_drop, List.take_append_drop, List.take_append_drop]
  have get : ∀ (i : Nat) (x : Bool), E[i]? = some x → E.getD i false = x := fun i x h => by rw [List.getD_eq_getElem?_getD, h]; rfl
  have h1 : ∀ x ∈ E.take p, x = false := by
    intro x hx
    obtain ⟨i, hi, rfl⟩ := List.mem_iff_getElem.1 hx
    rw [List.length_take] at hi
    rw [List.getElem_take]
    cases hv : E[i]'(by omega)
    · rfl
    · have := hz i (get i true (by rw [List.getElem?_eq_getElem (by omega), hv]))
      omega
  have h2 : ∀ x ∈ E.drop (p + 32), x = false := by
    intro x hx
    obtain ⟨i, hi, rfl⟩ := List.mem_iff_getElem.1 hx
    rw [List.length_drop] at hi
    rw [List.getElem_drop]
    cases hv : E[p + 32 + i]'(by omega)
    · rfl
    · have := hz (p + 32 + i) (get _ true (by rw [List.getElem?_eq_getElem (by omega), hv]))
      omega
  have h3 : true ∈ (E.drop p).take 32 := by
    rw [e, List.mem_append, List.mem_append] at ht
    rcases ht with h | h | h
    · exact absurd (h1 true h) (by simp)
    · exact h
    · exact absurd (h2 true h) (by simp)
  rw [e, falses _ h1, falses _ h2]
  exact burst _ _ _ (by rw [List.length_take]; omega) h3

theorem comp_bits0 : ∀ a : Fin 256, ∀ j : Fin 8, (255 - a.val).testBit j.val = !(a.val.testBit j.val) := by decide +kernel
theorem comp_bits (a b j : Nat) (h : a + b = 255) (hj : j < 8) : a.testBit j = !(b.testBit j) := by
  have := comp_bits0 ⟨b, by omega⟩ ⟨j, hj⟩
  simp only at this
  rw [← this]; congr 1; omega
theorem hdrFrom_get (l : List UInt8) : ∀ (d i0 : Nat), hdrFrom l d i0 = true → ∀ i, i0 ≤ i → i < i0 + d → i < l.length → (l.getD i 0).toNat + (l.getD (i - 4) 0).toNat = 255 := by
  intro d
  induction d with
  | zero => intro i0 _ i h1 h2; omega
  | succ d ih =>
    intro i0 h i h1 h2 h3
    unfold hdrFrom at h
    rw [if_pos (by omega), Bool.and_eq_true, decide_eq_true_eq] at h
    by_cases e : i = i0
    · rw [e]; exact h.1
    · exact ih (i0 + 1) h.2 i (by omega) (by omega) h3
theorem byte_ext (a b : UInt8) (h : ∀ j, j < 8 → a.toNat.testBit j = b.toNat.testBit j) : a = b := by
  apply UInt8.toNat_inj.1
  apply Nat.eq_of_testBit_eq
  intro j
  by_cases hj : j < 8
  · exact h j hj
  · have ha : a.toNat < 2 ^ j := Nat.lt_of_lt_of_le a.toNat_lt (Nat.pow_le_pow_right (by decide) (by omega))
    have hb : b.toNat < 2 ^ j := Nat.lt_of_lt_of_le b.toNat_lt (Nat.pow_le_pow_right (by decide) (by omega))
    rw [Nat.testBit_lt_two_pow ha, Nat.testBit_lt_two_pow hb]
theorem bits_ext (l m : List UInt8) (hl : l.length = m.length) (h : ∀ j, j < 8 * l.length → bitAt l j = bitAt m j) : l = m := by
  apply List.ext_getElem hl
  intro i h1 h2
  apply byte_ext
  intro j hj
  have := h (8 * i + j) (by omega)
  unfold bitAt at this
  rw [show (8 * i + j) / 8 = i by omega, show (8 * i + j) % 8 = j by omega, List.getD_eq_getElem?_getD, List.getD_eq_getElem?_getD, List.getElem?_eq_getElem h1, List.getElem?_eq_getElem h2] at this
  exact this
theorem bitAt_append (l m : List UInt8) (j : Nat) (h : j < 8 * l.length) : bitAt (l ++ m) j = bitAt l j := by
  unfold bitAt
  rw [List.getD_eq_getElem?_getD, List.getD_eq_getElem?_getD, List.getElem?_append_left (by omega)]
theorem bitAt_drop (l : List UInt8) (k j : Nat) : bitAt (l.drop k) j = bitAt l (8 * k + j) := by
  unfold bitAt
  rw [List.getD_eq_getElem?_getD, List.getD_eq_getElem?_getD, List.getElem?_drop, show (8 * k + j) / 8 = k + j / 8 by omega, show (8 * k + j) % 8 = j % 8 by omega]
theorem bitAt_take (l : List UInt8) (k j : Nat) (h : j < 8 * k) : bitAt (l.take k) j = bitAt l j := by
  unfold bitAt
  rw [List.getD_eq_getElem?_getD, List.getD_eq_getElem?_getD, List.getElem?_take_of_lt (by omega)]

/-- What Next needs to take a record. -/
theorem nextL_yes (l : List UInt8) (h : (nextL l).2.2 = 0) : hdr l = true ∧ 8 ≤ l.length ∧ numL l + 12 ≤ l.length ∧ numL (l.drop (8 + numL l)) = sumN ((l.drop 8).take (numL l)) := by
  revert h
  unfold nextL
  split
  · split
    · intro h; exact absurd h (by simp)
    · split
      · intro h; exact absurd h (by simp)
      · split
        · intro h; exact absurd h (by simp)
        · split
          · intro _; exact ⟨by assumption, by omega, by omega, by assumption⟩
          · intro h; exact absurd h (by simp)
  · intro h; exact absurd h (by simp)

/-- The bits that are turned: among 32 from a place on. -/
def turnedBit (from' bits k : Nat) : Bool := decide (from' ≤ k) && decide (k < from' + 32) && bits.testBit (k - from')

theorem told (r rest cur : List UInt8) (from' bits : Nat) (hr : r.length ≤ 4096) (hl : cur.length = r.length + 12)
    (hc : ∀ k, k < 8 * cur.length → bitAt cur k = (bitAt (putL r) k ^^ turnedBit from' bits k)) (hany : ∃ k, k < 8 * cur.length ∧ turnedBit from' bits k = true) :
    ¬ (nextL (cur ++ rest)).2.2 = 0 := by
  intro h0
  obtain ⟨y1, y2, y3, y4⟩ := nextL_yes _ h0
  have hpl := putL_len r
  have win : ∀ k, turnedBit from' bits k = true → from' ≤ k ∧ k < from' + 32 := by
    intro k hk
    unfold turnedBit at hk
    rw [Bool.and_eq_true, Bool.and_eq_true, decide_eq_true_eq, decide_eq_true_eq] at hk
    exact hk.1
  -- the header is as it was
  have hhead : ∀ k, k < 64 → turnedBit from' bits k = false := by
    intro k hk
    have hpair : ∀ x, x < 32 → turnedBit from' bits x = turnedBit from' bits (x + 32) := by
      intro x hx
      have g1 := hdrFrom_get _ 4 4 y1 (x / 8 + 4) (by omega) (by omega) (by omega)
      have g2 := hdrFrom_get _ 4 4 (show hdr (putL r) = true by unfold putL; exact hdr_put _ (by omega) _) (x / 8 + 4) (by omega) (by omega) (by omega)
      rw [Nat.add_sub_cancel] at g1 g2
      have b1 := comp_bits _ _ (x % 8) g1 (by omega)
      have b2 := comp_bits _ _ (x % 8) g2 (by omega)
      have c1 : bitAt (cur ++ rest) (x + 32) = !(bitAt (cur ++ rest) x) := by
        unfold bitAt
        rw [show (x + 32) / 8 = x / 8 + 4 by omega, show (x + 32) % 8 = x % 8 by omega]; exact b1
      have c2 : bitAt (putL r) (x + 32) = !(bitAt (putL r) x) := by
        unfold bitAt
        rw [show (x + 32) / 8 = x / 8 + 4 by omega, show (x + 32) % 8 = x % 8 by omega]; exact b2
      rw [bitAt_append _ _ _ (by omega), bitAt_append _ _ _ (by omega), hc _ (by omega), hc _ (by omega), c2] at c1
      revert c1
      cases bitAt (putL r) x <;> cases turnedBit from' bits x <;> cases turnedBit from' bits (x + 32) <;> simp
    have hno : ∀ x, x < 32 → turnedBit from' bits x = false := by
      intro x hx
      cases hv : turnedBit from' bits x
      · rfl
      · have w1 := win x hv
        have w2 := win (x + 32) (by rw [← hpair x hx]; exact hv)
        omega
    by_cases hk32 : k < 32
    · exact hno k hk32
    · have := hpair (k - 32) (by omega)
      rw [show k - 32 + 32 = k by omega, hno (k - 32) (by omega)] at this
      exact this.symm
  have h8 : cur.take 8 = (putL r).take 8 := by
    apply bits_ext
    · rw [List.length_take, List.length_take]; omega
    · intro j hj
      rw [List.length_take] at hj
      rw [bitAt_take _ _ _ (by omega), bitAt_take _ _ _ (by omega), hc _ (by omega), hhead j (by omega), Bool.xor_false]
  have hnum : numL (cur ++ rest) = r.length := by
    have e1 : numL ((cur ++ rest).take 4) = numL (cur ++ rest) := numL_take _ (by rw [List.length_append]; omega)
    have e2 : (cur ++ rest).take 4 = (cur.take 8).take 4 := by
      rw [List.take_append_of_le_length (by omega), List.take_take, Nat.min_eq_left (by omega)]
    rw [← e1, e2, h8, List.take_take, Nat.min_eq_left (by omega), numL_take _ (by omega)]
    unfold putL
    exact numL_fourL _ (by omega) _
  rw [hnum] at y3 y4
  -- the rest of the record, and its sum
  have hd : (cur ++ rest).drop 8 = cur.drop 8 ++ rest := List.drop_append_of_le_length (by omega)
  have hrec : ((cur ++ rest).drop 8).take r.length = (cur.drop 8).take r.length := by
    rw [hd, List.take_append_of_le_length (by rw [List.length_drop]; omega)]
  have hsum : (cur ++ rest).drop (8 + r.length) = (cur.drop (8 + r.length)) ++ rest := List.drop_append_of_le_length (by omega)
  have hs4 : (cur.drop (8 + r.length)).length = 4 := by rw [List.length_drop]; omega
  rw [hrec, hsum] at y4
  have hf : cur.drop (8 + r.length) = fourL (sumN ((cur.drop 8).take r.length)) := by
    rw [← y4]
    have := take4 ((cur.drop (8 + r.length)) ++ rest) (by rw [List.length_append]; omega)
    rw [this, List.take_append_of_le_length (by omega), List.take_of_length_le (by omega)]
  have hP' : cur.drop 8 = (cur.drop 8).take r.length ++ fourL (sumN ((cur.drop 8).take r.length)) := by
    rw [← hf, ← List.drop_drop, List.take_append_drop]
  have hP : (putL r).drop 8 = r ++ fourL (sumN r) := by
    unfold putL
    rw [← List.append_assoc (fourL r.length)]
    exact List.drop_left' (by simp [fourL_len])
  have r1 := residue ((cur.drop 8).take r.length)
  have r2 := residue r
  rw [← hP'] at r1
  rw [← hP] at r2
  rw [fold_serial] at r1 r2
  -- the bits that are turned there
  have hlenE : (bitsL (cur.drop 8)).length = 8 * (r.length + 4) := by rw [bitsL_len, List.length_drop]; omega
  have hlenP : (bitsL ((putL r).drop 8)).length = 8 * (r.length + 4) := by rw [bitsL_len, List.length_drop]; omega
  let E := (List.range (8 * (r.length + 4))).map fun j => turnedBit from' bits (64 + j)
  have hE : bitsL (cur.drop 8) = List.zipWith xor (bitsL ((putL r).drop 8)) E := by
    apply List.ext_getElem
    · rw [List.length_zipWith, hlenE, hlenP]; simp [E]
    · intro i h1 h2
      have hi : i < 8 * (r.length + 4) := by rw [hlenE] at h1; exact h1
      have a1 := bitsL_get (cur.drop 8) i (by rw [List.length_drop]; omega)
      have a2 := bitsL_get ((putL r).drop 8) i (by rw [List.length_drop]; omega)
      rw [List.getD_eq_getElem?_getD, List.getElem?_eq_getElem h1, Option.getD_some, bitAt_drop, hc _ (by omega)] at a1
      rw [List.getD_eq_getElem?_getD, List.getElem?_eq_getElem (by rw [hlenP]; exact hi), Option.getD_some, bitAt_drop] at a2
      rw [List.getElem_zipWith, a1, a2]
      simp [E]
  have hz := serial_xor (bitsL ((putL r).drop 8)) 4294967295#32 0#32 E (by rw [hlenP]; simp [E])
  rw [← hE, BitVec.xor_zero, r1, r2] at hz
  have hzero : serial 0#32 E = 0#32 := by
    have := congrArg (fun v => steps 32 (BitVec.allOnes 32) ^^^ v) hz
    simp only [← BitVec.xor_assoc, BitVec.xor_self, BitVec.zero_xor] at this
    exact this.symm
  obtain ⟨k, hk1, hk2⟩ := hany
  have hk64 : 64 ≤ k := by
    rcases Nat.lt_or_ge k 64 with h | h
    · rw [hhead k h] at hk2; cases hk2
    · exact h
  refine burst_at E (from' - 64) ?_ ?_ hzero
  · intro j hj
    rw [List.getD_eq_getElem?_getD] at hj
    have hjl : j < 8 * (r.length + 4) := by
      rcases Nat.lt_or_ge j (8 * (r.length + 4)) with h | h
      · exact h
      · rw [List.getElem?_eq_none (by simp [E]; omega)] at hj; cases hj
    rw [List.getElem?_map, List.getElem?_range hjl] at hj
    have := win (64 + j) hj
    omega
  · refine List.mem_map.2 ⟨k - 64, List.mem_range.2 (by omega), ?_⟩
    rw [show 64 + (k - 64) = k by omega]; exact hk2

end Go.Proofs.Ytejfdiiennnjjaa.Facts
