/- The law FrameTold: its walk, with the callees by their contracts. -/
import Derived.Test.YtejfdiiennnjjaaTold
import Derived.Laws.IdiomStrings
import Derived.Lib.Hide
import Derived.Outline
import Derived.WalkLawsBesides
namespace Go.Proofs.Ytejfdiiennnjjaa.Facts
open Go.RowKit Go.Proofs.Ytejfdiiennnjjaa.F Go.Proofs.YtejfdiiennnjjaaW.PrintWords Go.Proofs.YtejfdiiennnjjaaW.PrintLast Go.Proofs.YtejfdiiennnjjaaW.PrintMore Go.Proofs.Ytejfdiiennnjjaa
set_option linter.unusedVariables false

theorem awake_any (w : World) : Calls Try.prog 18 #[] w fun e w' => e = .returned (.bool true) ∧ Below w.heap.size w w' := by
  obtain ⟨k, hk⟩ := awake_ev.rounds
  exact F.lombardlaw07_awake.calls k true w hk
theorem RPut_yes (s : ByteArray) (hs : s.size ≤ 4096) (w : World) :
    Calls Try.prog 17 #[.string s] w fun e w' => e = .returned (.tuple #[.string (S (putL (L s))), .int .i64 0]) ∧ Below w.heap.size w w' := by
  obtain ⟨k, hk⟩ := (RPut_ev s (by omega)).rounds
  have e : putS (L s) = (S (putL (L s)), 0) := by unfold putS; rw [L_len, if_pos hs]
  rw [e] at hk
  exact F.lombardref07_Put.calls k s _ _ w hk
theorem RPut_no (s : ByteArray) (hs : ¬ s.size ≤ 4096) (hm : s.size ≤ 140737488351232) (w : World) :
    Calls Try.prog 17 #[.string s] w fun e w' => e = .returned (.tuple #[.string (S []), .int .i64 2]) ∧ Below w.heap.size w w' := by
  obtain ⟨k, hk⟩ := (RPut_ev s hm).rounds
  have e : putS (L s) = (S [], 2) := by unfold putS; rw [L_len, if_neg hs]
  rw [e] at hk
  exact F.lombardref07_Put.calls k s _ _ w hk
theorem Next_calls (s : ByteArray) (hs : s.size ≤ 1099511627776) (w : World) :
    Calls Try.prog 19 #[.string s] w fun e w' => e = .returned (.tuple #[.string (nextL (L s)).1, .int .i64 (nextL (L s)).2.1, .int .i64 (nextL (L s)).2.2]) ∧ Below w.heap.size w w' := by
  obtain ⟨k, hk⟩ := (Next_ev s hs).rounds
  exact F.frame_Next.calls k s _ _ _ w hk

set_option maxHeartbeats 1000000 in
set_option maxRecDepth 100000 in
theorem Told_long (a0 a1 : ByteArray) (a2 a3 : Int) (w : World) (h : ¬ a0.size ≤ 4096) (hm : a0.size ≤ 140737488351232) :
    Calls Try.prog 3 #[.string a0, .string a1, .int .u64 a2, .int .u32 a3] w fun e w' => e = .returned (.bool true) ∧ Below w.heap.size w w' := by
  go_enter Try.func3, Try.ntmps3
  go_wp2_with fail
  refine (RPut_no a0 h hm _).mono ?_
  rintro e w1 ⟨rfl, hb1⟩
  go_wp2_with fail
  refine (awake_any _).mono ?_
  rintro e w2 ⟨rfl, hb2⟩
  go_wp2
  go_ret
  exact ⟨rfl, below_then hb1 hb1.size hb2⟩
set_option maxHeartbeats 1000000 in
set_option maxRecDepth 100000 in
theorem Told_zero (a0 a1 : ByteArray) (a2 : Int) (w : World) (h : a0.size ≤ 4096) :
    Calls Try.prog 3 #[.string a0, .string a1, .int .u64 a2, .int .u32 0] w fun e w' => e = .returned (.bool true) ∧ Below w.heap.size w w' := by
  go_enter Try.func3, Try.ntmps3
  go_wp2_with fail
  refine (RPut_yes a0 h _).mono ?_
  rintro e w1 ⟨rfl, hb1⟩
  go_wp2_with fail
  refine (awake_any _).mono ?_
  rintro e w2 ⟨rfl, hb2⟩
  go_wp2
  go_ret
  exact ⟨rfl, below_then hb1 hb1.size hb2⟩
set_option maxHeartbeats 1000000 in
set_option maxRecDepth 100000 in
theorem Told_rest (a0 a1 : ByteArray) (a2 a3 : Int) (w : World) (h : a0.size ≤ 4096) (h3 : (a3 == 0) = false) (h1 : 5000 < a1.size) (h1m : a1.size ≤ 140737488351232) :
    Calls Try.prog 3 #[.string a0, .string a1, .int .u64 a2, .int .u32 a3] w fun e w' => e = .returned (.bool true) ∧ Below w.heap.size w w' := by
  go_enter Try.func3, Try.ntmps3
  go_wp2_with fail
  refine (RPut_yes a0 h _).mono ?_
  rintro e w1 ⟨rfl, hb1⟩
  go_wp2_with fail
  refine (awake_any _).mono ?_
  rintro e w2 ⟨rfl, hb2⟩
  go_wp2
  go_ret
  exact ⟨rfl, below_then hb1 hb1.size hb2⟩

/-- A bit turned; the bits turned behind i rounds, and whether there is one. -/
def flipL (c : List UInt8) (k : Nat) : List UInt8 := c.set (k / 8) (UInt8.ofNat ((c.getD (k / 8) 0).toNat ^^^ 2 ^ (k % 8)))
def turnI (l : List UInt8) (f n : Nat) : Nat → List UInt8
  | 0 => l
  | i + 1 => if f + i < 8 * l.length ∧ n.testBit i = true then flipL (turnI l f n i) (f + i) else turnI l f n i
def anyI (len f n : Nat) : Nat → Bool
  | 0 => false
  | i + 1 => anyI len f n i || (decide (f + i < 8 * len) && n.testBit i)
theorem flipL_len (c : List UInt8) (k : Nat) : (flipL c k).length = c.length := by simp [flipL]
theorem turnI_len (l : List UInt8) (f n i : Nat) : (turnI l f n i).length = l.length := by
  induction i with
  | zero => rfl
  | succ i ih => unfold turnI; split
                 · rw [flipL_len, ih]
                 · exact ih

/-- The bytes b, as they lie in block B. -/
def BInv (B : Nat) (c : List UInt8) (w wr : World) : Prop :=
  (∃ cs : Array Value, wr.heap[B]? = some (.cells cs 5 (cs.size, cs.size + 1)) ∧ c.length ≤ cs.size ∧ ∀ j (h : j < c.length), cs[j]? = some (.int .u8 (c[j].toNat : Int))) ∧ Below w.heap.size w wr ∧ w.heap.size ≤ B
theorem BInv.cell {B : Nat} {c : List UInt8} {w wr : World} (h : BInv B c w wr) (j : Nat) (hj : j < c.length) : wr.cell? ⟨B, j, none⟩ = some (.int .u8 (c[j].toNat : Int)) := by
  obtain ⟨⟨cs, h1, h2, h3⟩, _⟩ := h
  simp [World.cell?, h1, h3 j hj]
theorem BInv.free {B : Nat} {c : List UInt8} {w wr : World} (h : BInv B c w wr) (j : Nat) (hj : j < c.length) : wr.frozen? ⟨B, j, none⟩ = false := by
  obtain ⟨⟨cs, h1, h2, h3⟩, _⟩ := h
  simp [World.frozen?, h1]; omega
theorem BInv.set {B : Nat} {c : List UInt8} {w wr : World} (h : BInv B c w wr) (j : Nat) (hj : j < c.length) (x : UInt8) : BInv B (c.set j x) w (wr.setCell ⟨B, j, none⟩ (.int .u8 (x.toNat : Int))) := by
  obtain ⟨⟨cs, h1, h2, h3⟩, h4, h5⟩ := h
  have hlt : B < wr.heap.size := by
    rcases Nat.lt_or_ge B wr.heap.size with h' | h'
    · exact h'
    · simp [Array.getElem?_eq_none h'] at h1
  have h1' : wr.heap[B] = .cells cs 5 (cs.size, cs.size + 1) := by simpa [Array.getElem?_eq_getElem hlt] using h1
  refine ⟨⟨cs.setIfInBounds j (.int .u8 (x.toNat : Int)), ?_, by simpa using h2, ?_⟩, h4.setCell h5 _, h5⟩
  · show (wr.heap.modify B _)[B]? = _
    rw [Array.getElem?_eq_getElem (by simpa using hlt), Array.getElem_modify_self, h1']
    simp
  · intro i hi
    rw [List.length_set] at hi
    rw [Array.getElem?_setIfInBounds]
    by_cases e : j = i
    · subst e
      rw [if_pos rfl, if_pos (by omega)]; simp
    · rw [if_neg e, h3 i hi, List.getElem_set_ne e]

theorem xor8 (a r : Nat) (ha : a < 256) (hr : r < 8) : Go.bits .xor .u8 (a : Int) ((2 : Int) ^ r % 256) = ((UInt8.ofNat (a ^^^ 2 ^ r)).toNat : Int) := by
  have h2 : 2 ^ r < 256 := by
    have : 2 ^ r ≤ 2 ^ 7 := Nat.pow_le_pow_right (by decide) (by omega)
    omega
  have e2 : (2 : Int) ^ r % 256 = ((2 ^ r : Nat) : Int) := by
    have : (2 : Int) ^ r = ((2 ^ r : Nat) : Int) := by push_cast; rfl
    rw [this]
    generalize (2 ^ r : Nat) = q at *
    omega
  have hx : a ^^^ 2 ^ r < 2 ^ 8 := Nat.xor_lt_two_pow (n := 8) ha h2
  rw [e2, ofNat_toNat8 _ hx]
  show IntKind.u8.wrap ((BitVec.ofInt 8 (a : Int) ^^^ BitVec.ofInt 8 ((2 ^ r : Nat) : Int)).toNat : Int) = _
  rw [BitVec.ofInt_natCast, BitVec.ofInt_natCast, BitVec.toNat_xor, BitVec.toNat_ofNat, BitVec.toNat_ofNat, Nat.mod_eq_of_lt (show a < 2 ^ 8 from ha), Nat.mod_eq_of_lt (show 2 ^ r < 2 ^ 8 from h2), IntKind.wrap_u8]
  omega
theorem bit_of (n m x : Nat) (hx : x = n / 2 ^ m) : n.testBit m = decide (x % 2 = 1) := by
  rw [hx, Nat.testBit_eq_decide_div_mod_eq]
theorem half_of (n m x : Nat) (hx : x = n / 2 ^ m) : x / 2 = n / 2 ^ (m + 1) := by
  rw [hx, Nat.div_div_eq_div_mul, Nat.pow_succ]
theorem turn_yes (l : List UInt8) (f n m : Nat) (h1 : f + m < 8 * l.length) (h2 : n.testBit m = true) (hj : (f + m) / 8 < (turnI l f n m).length) :
    turnI l f n (m + 1) = (turnI l f n m).set ((f + m) / 8) (UInt8.ofNat (((turnI l f n m)[(f + m) / 8]).toNat ^^^ 2 ^ ((f + m) % 8))) := by
  show (if _ then _ else _) = _
  rw [if_pos ⟨h1, h2⟩, flipL, List.getD_eq_getElem?_getD, List.getElem?_eq_getElem hj]; rfl
theorem turn_no (l : List UInt8) (f n m : Nat) (h : ¬ (f + m < 8 * l.length ∧ n.testBit m = true)) : turnI l f n (m + 1) = turnI l f n m := by
  show (if _ then _ else _) = _
  rw [if_neg h]
theorem any_yes (len f n m : Nat) (h1 : f + m < 8 * len) (h2 : n.testBit m = true) : anyI len f n (m + 1) = true := by
  unfold anyI; rw [decide_eq_true h1, h2]; simp
theorem any_no (len f n m : Nat) (h : ¬ (f + m < 8 * len ∧ n.testBit m = true)) : anyI len f n (m + 1) = anyI len f n m := by
  show (anyI len f n m || _) = _
  by_cases h1 : f + m < 8 * len
  · cases hb : n.testBit m
    · simp
    · exact absurd ⟨h1, hb⟩ h
  · rw [decide_eq_false h1]; simp

/-- What the bits are behind all rounds. -/
theorem flip_bit (c : List UInt8) (k j : Nat) (hk : k < 8 * c.length) : bitAt (flipL c k) j = (bitAt c j ^^ decide (j = k)) := by
  unfold bitAt flipL
  have hk8 : k / 8 < c.length := by omega
  by_cases e : j / 8 = k / 8
  · have hx : (c.getD (k / 8) 0).toNat ^^^ 2 ^ (k % 8) < 256 := by
      have h2 : 2 ^ (k % 8) ≤ 2 ^ 7 := Nat.pow_le_pow_right (by decide) (by omega)
      exact Nat.xor_lt_two_pow (n := 8) (c.getD (k / 8) 0).toNat_lt (by omega)
    rw [e, List.getD_eq_getElem?_getD, List.getElem?_set_self hk8, Option.getD_some, ofNat_toNat8 _ hx, Nat.testBit_xor, Nat.testBit_two_pow]
    congr 1
    rw [Bool.eq_iff_iff, decide_eq_true_iff, decide_eq_true_iff]; omega
  · rw [List.getD_eq_getElem?_getD, List.getElem?_set_ne (fun h => e h.symm), ← List.getD_eq_getElem?_getD, decide_eq_false (by intro h; rw [h] at e; exact e rfl), Bool.xor_false]
theorem turn_bits (l : List UInt8) (f n : Nat) : ∀ i k, k < 8 * l.length → bitAt (turnI l f n i) k = (bitAt l k ^^ (decide (f ≤ k) && decide (k < f + i) && n.testBit (k - f))) := by
  intro i
  induction i with
  | zero => intro k hk; show bitAt l k = _
            rw [show (decide (f ≤ k) && decide (k < f + 0)) = false by rw [Bool.and_eq_false_iff, decide_eq_false_iff_not, decide_eq_false_iff_not]; omega]
            simp
  | succ i ih =>
    intro k hk
    by_cases h : f + i < 8 * l.length ∧ n.testBit i = true
    · have e : turnI l f n (i + 1) = flipL (turnI l f n i) (f + i) := by show (if _ then _ else _) = _; rw [if_pos h]
      rw [e, flip_bit _ _ _ (by rw [turnI_len]; exact h.1), ih k hk]
      by_cases hk2 : k = f + i
      · subst hk2
        rw [decide_eq_true rfl, decide_eq_false (show ¬ f + i < f + i by omega), decide_eq_true (show f + i < f + (i + 1) by omega), decide_eq_true (show f ≤ f + i by omega), show f + i - f = i by omega, h.2]
        simp
      · rw [decide_eq_false hk2, Bool.xor_false]
        congr 3
        rw [Bool.eq_iff_iff, decide_eq_true_iff, decide_eq_true_iff]; omega
    · rw [turn_no l f n i h, ih k hk]
      by_cases hk2 : k = f + i
      · subst hk2
        have hb : n.testBit i = false := by
          cases hb : n.testBit i
          · rfl
          · exact absurd ⟨hk, hb⟩ h
        rw [show f + i - f = i by omega, hb]; simp
      · congr 3
        rw [Bool.eq_iff_iff, decide_eq_true_iff, decide_eq_true_iff]; omega
theorem any_ex (len f n : Nat) : ∀ i, i ≤ 32 → anyI len f n i = true → ∃ k, k < 8 * len ∧ turnedBit f n k = true := by
  intro i
  induction i with
  | zero => intro _ h; cases h
  | succ i ih =>
    intro hi h
    unfold anyI at h
    rw [Bool.or_eq_true, Bool.and_eq_true, decide_eq_true_eq] at h
    rcases h with h | h
    · exact ih (by omega) h
    · refine ⟨f + i, h.1, ?_⟩
      unfold turnedBit
      rw [decide_eq_true (show f ≤ f + i by omega), decide_eq_true (show f + i < f + 32 by omega), show f + i - f = i by omega, h.2]; rfl

theorem wf64 (f n : Nat) (h : f < 8 * n) (hn : n ≤ 4108) : wrap64 (f : Int) = (f : Int) := w64 (by omega) (by omega)
theorem bytesRow_size (s : ByteArray) (c : Nat) : (bytesRow s c).size = s.size + (c - s.size) := by
  unfold bytesRow
  rw [Array.size_append, Array.size_map, Array.size_replicate]; rfl

set_option maxHeartbeats 2000000 in
set_option maxRecDepth 100000 in
theorem Told_main0 (a0 a1 P : ByteArray) (n2 n3 f : Nat) (t : ByteArray) (n ee : Int) (w : World) (h : a0.size ≤ 4096) (hP1 : 12 ≤ P.size) (hP2 : P.size ≤ 4108) (hcall : ∀ u : World, Calls Try.prog 17 #[.string a0] u fun e w' => e = .returned (.tuple #[.string P, .int .i64 0]) ∧ Below u.heap.size u w')
    (h3 : (((n3 : Int)) == 0) = false) (h1 : a1.size ≤ 5000) (h3b : n3 < 4294967296) (hf : (n2 : Int) % (8 * (P.size : Int)) = (f : Int)) (hf1 : f < 8 * P.size)
    (hav : anyI P.size f n3 32 = false) (hnext : ∀ u : World, Calls Try.prog 19 #[.string ((⟨(turnI (L P) f n3 32).toArray⟩ : ByteArray) ++ a1)] u fun e w' => e = .returned (.tuple #[.string t, .int .i64 n, .int .i64 ee]) ∧ Below u.heap.size u w') :
    Calls Try.prog 3 #[.string a0, .string a1, .int .u64 n2, .int .u32 n3] w fun e w' => e = .returned (.bool true) ∧ Below w.heap.size w w' := by
  have HC := Lib.hid hcall
  have HN := Lib.hid hnext
  have HF := Lib.hid hf
  have HV := Lib.hid hav
  clear hcall hnext hf hav
  have hcv : ∀ u : World, (convert 9 27 (.string P)).run Try.prog u = .ok (.slice (some ⟨u.heap.size, 0, none⟩) P.size (grownCap u P.size 0 5)) (u.drew.alloc (.cells (bytesRow P (grownCap u P.size 0 5)) 5 ((bytesRow P (grownCap u P.size 0 5)).size, (bytesRow P (grownCap u P.size 0 5)).size + 1))) := fun u => run_bytes_of_string u 9 27 5 P Try.underlying9 Try.underlying27 Try.underlying5
  go_enter Try.func3, Try.ntmps3
  go_wp2_with fail
  refine (HC.out _).mono ?_
  rintro e w1 ⟨rfl, hb1⟩
  go_wp2
  rw [HF.out, wf64 f P.size hf1 hP2]
  have hlen : (L P).length = P.size := L_len P
  go_loopw [3, 13, 14] (fun z a i wr => ∃ (m x : Nat), m ≤ 32 ∧ i = .int .i64 (m : Int) ∧ a = .bool (anyI P.size f n3 m) ∧ z = .int .u32 (x : Int) ∧ Hid (x = n3 / 2 ^ m) ∧ x < 4294967296 ∧ BInv w1.heap.size (turnI (L P) f n3 m) w wr) (fun _ _ i _ => (32 - intOf i).toNat)
  case atStart =>
    refine ⟨0, n3, by omega, rfl, rfl, rfl, Lib.hid (by simp), h3b, ⟨bytesRow P (grownCap w1 P.size 0 5), ?_, ?_, ?_⟩, ?_, hb1.size⟩
    · exact heap_alloc_new _ _
    · show (L P).length ≤ _
      rw [hlen, bytesRow_size]; omega
    · intro j hj
      have hj' : j < P.data.size := by rw [turnI_len, hlen] at hj; exact hj
      rw [bytesRow_at P _ j hj']; rfl
    · exact below_drew (below_alloc hb1 _)
  case round =>
    obtain ⟨m, x, hm, rfl, rfl, rfl, hx, hxb, hinv⟩ := hrel
    by_cases hm32 : m < 32
    · by_cases hk : f + m < 8 * P.size
      · by_cases hbit : x % 2 = 1
        · have hb2 : (((x : Int) % 2) == 1) = true := beq_iff_eq.2 (by omega)
          have hj : (f + m) / 8 < (turnI (L P) f n3 m).length := by rw [turnI_len, hlen]; omega
          have hc1 := hinv.cell _ hj
          have hc2 := hinv.free _ hj
          have hbm : n3.testBit m = true := by rw [bit_of n3 m x hx.out, decide_eq_true hbit]
          have hty := turn_yes (L P) f n3 m (by rw [hlen]; exact hk) hbm hj
          have hset := hinv.set _ hj (UInt8.ofNat (((turnI (L P) f n3 m)[(f + m) / 8]).toNat ^^^ 2 ^ ((f + m) % 8)))
          rw [← hty, ← xor8 _ _ (UInt8.toNat_lt _) (by omega)] at hset
          have hany := any_yes P.size f n3 m hk hbm
          have hhalf := half_of n3 m x hx.out
          have HA := Lib.hid hany
          have HH := Lib.hid hhalf
          clear hty hany hhalf hbm hinv
          go_wp2
          go_roundw
          case rel => exact ⟨m + 1, x / 2, by omega, by go_num, by rw [HA.out], by go_num, HH, by omega, hset⟩
          case measure => simp [intOf]; omega
        · have hb2 : (((x : Int) % 2) == 1) = false := beq_eq_false_iff_ne.2 (by omega)
          have hno : ¬ (f + m < 8 * P.size ∧ n3.testBit m = true) := fun hh => by
            rw [bit_of n3 m x hx.out, decide_eq_true_eq] at hh; exact hbit hh.2
          have HA := Lib.hid (any_no P.size f n3 m hno)
          have HT := Lib.hid (turn_no (L P) f n3 m (by rw [hlen]; exact hno))
          have HH := Lib.hid (half_of n3 m x hx.out)
          clear hno
          go_wp2
          go_roundw
          case rel => exact ⟨m + 1, x / 2, by omega, by go_num, by rw [HA.out], by go_num, HH, by omega, by rw [HT.out]; exact hinv⟩
          case measure => simp [intOf]; omega
      · have hno : ¬ (f + m < 8 * P.size ∧ n3.testBit m = true) := fun hh => hk hh.1
        have HA := Lib.hid (any_no P.size f n3 m hno)
        have HT := Lib.hid (turn_no (L P) f n3 m (by rw [hlen]; exact hno))
        have HH := Lib.hid (half_of n3 m x hx.out)
        clear hno
        go_wp2
        go_roundw
        case rel => exact ⟨m + 1, x / 2, by omega, by go_num, by rw [HA.out], by go_num, HH, by omega, by rw [HT.out]; exact hinv⟩
        case measure => simp [intOf]; omega
    · obtain rfl : m = 32 := by omega
      have hcur := turnI_len (L P) f n3 32
      rw [hlen] at hcur
      have hcells : ∀ j (hj : j < (turnI (L P) f n3 32).length), wr.cell? ((⟨w1.heap.size, 0, none⟩ : Addr).add j) = some (.int .u8 ((turnI (L P) f n3 32)[j].toNat : Int)) := fun j hj => by
        rw [Addr.add_lit, Nat.zero_add]; exact hinv.cell j hj
      have hback := run_convert_bytes_back (P := Try.prog) wr 27 9 5 ⟨w1.heap.size, 0, none⟩ (grownCap w1 P.size 0 5) (turnI (L P) f n3 32) Try.underlying27 Try.underlying5 Try.underlying9 hcells
      rw [hcur] at hback
      clear hcells
      have hb9 := hinv.2.1
      have hs9 := hb9.size
      clear hinv hx
      have hcs : (turnI (L P) f n3 32).length ≤ 4108 := by omega
      have HCU := Lib.hid hcur
      clear hcur
      rw [HV.out]
      go_wp2_with fail
      refine (HN.out _).mono ?_
      rintro e w2 ⟨rfl, hb2⟩
      go_wp2_with fail
      refine (awake_any _).mono ?_
      rintro e w3 ⟨rfl, hb3⟩
      go_wp2
      go_ret
      exact ⟨rfl, below_then (below_then hb9 hs9 hb2) (by have := hb2.size; omega) hb3⟩

set_option maxHeartbeats 2000000 in
set_option maxRecDepth 100000 in
theorem Told_main1 (a0 a1 P : ByteArray) (n2 n3 f : Nat) (w : World) (h : a0.size ≤ 4096) (hP1 : 12 ≤ P.size) (hP2 : P.size ≤ 4108) (hcall : ∀ u : World, Calls Try.prog 17 #[.string a0] u fun e w' => e = .returned (.tuple #[.string P, .int .i64 0]) ∧ Below u.heap.size u w')
    (h3 : (((n3 : Int)) == 0) = false) (h1 : a1.size ≤ 5000) (h3b : n3 < 4294967296) (hf : (n2 : Int) % (8 * (P.size : Int)) = (f : Int)) (hf1 : f < 8 * P.size)
    (hav : anyI P.size f n3 32 = true) (hnext : ∀ u : World, Calls Try.prog 19 #[.string ((⟨(turnI (L P) f n3 32).toArray⟩ : ByteArray) ++ a1)] u fun e w' => e = .returned (.tuple #[.string ⟨#[]⟩, .int .i64 0, .int .i64 15]) ∧ Below u.heap.size u w') :
    Calls Try.prog 3 #[.string a0, .string a1, .int .u64 n2, .int .u32 n3] w fun e w' => e = .returned (.bool true) ∧ Below w.heap.size w w' := by
  have HC := Lib.hid hcall
  have HN := Lib.hid hnext
  have HF := Lib.hid hf
  have HV := Lib.hid hav
  clear hcall hnext hf hav
  have hcv : ∀ u : World, (convert 9 27 (.string P)).run Try.prog u = .ok (.slice (some ⟨u.heap.size, 0, none⟩) P.size (grownCap u P.size 0 5)) (u.drew.alloc (.cells (bytesRow P (grownCap u P.size 0 5)) 5 ((bytesRow P (grownCap u P.size 0 5)).size, (bytesRow P (grownCap u P.size 0 5)).size + 1))) := fun u => run_bytes_of_string u 9 27 5 P Try.underlying9 Try.underlying27 Try.underlying5
  go_enter Try.func3, Try.ntmps3
  go_wp2_with fail
  refine (HC.out _).mono ?_
  rintro e w1 ⟨rfl, hb1⟩
  go_wp2
  rw [HF.out, wf64 f P.size hf1 hP2]
  have hlen : (L P).length = P.size := L_len P
  go_loopw [3, 13, 14] (fun z a i wr => ∃ (m x : Nat), m ≤ 32 ∧ i = .int .i64 (m : Int) ∧ a = .bool (anyI P.size f n3 m) ∧ z = .int .u32 (x : Int) ∧ Hid (x = n3 / 2 ^ m) ∧ x < 4294967296 ∧ BInv w1.heap.size (turnI (L P) f n3 m) w wr) (fun _ _ i _ => (32 - intOf i).toNat)
  case atStart =>
    refine ⟨0, n3, by omega, rfl, rfl, rfl, Lib.hid (by simp), h3b, ⟨bytesRow P (grownCap w1 P.size 0 5), ?_, ?_, ?_⟩, ?_, hb1.size⟩
    · exact heap_alloc_new _ _
    · show (L P).length ≤ _
      rw [hlen, bytesRow_size]; omega
    · intro j hj
      have hj' : j < P.data.size := by rw [turnI_len, hlen] at hj; exact hj
      rw [bytesRow_at P _ j hj']; rfl
    · exact below_drew (below_alloc hb1 _)
  case round =>
    obtain ⟨m, x, hm, rfl, rfl, rfl, hx, hxb, hinv⟩ := hrel
    by_cases hm32 : m < 32
    · by_cases hk : f + m < 8 * P.size
      · by_cases hbit : x % 2 = 1
        · have hb2 : (((x : Int) % 2) == 1) = true := beq_iff_eq.2 (by omega)
          have hj : (f + m) / 8 < (turnI (L P) f n3 m).length := by rw [turnI_len, hlen]; omega
          have hc1 := hinv.cell _ hj
          have hc2 := hinv.free _ hj
          have hbm : n3.testBit m = true := by rw [bit_of n3 m x hx.out, decide_eq_true hbit]
          have hty := turn_yes (L P) f n3 m (by rw [hlen]; exact hk) hbm hj
          have hset := hinv.set _ hj (UInt8.ofNat (((turnI (L P) f n3 m)[(f + m) / 8]).toNat ^^^ 2 ^ ((f + m) % 8)))
          rw [← hty, ← xor8 _ _ (UInt8.toNat_lt _) (by omega)] at hset
          have hany := any_yes P.size f n3 m hk hbm
          have hhalf := half_of n3 m x hx.out
          have HA := Lib.hid hany
          have HH := Lib.hid hhalf
          clear hty hany hhalf hbm hinv
          go_wp2
          go_roundw
          case rel => exact ⟨m + 1, x / 2, by omega, by go_num, by rw [HA.out], by go_num, HH, by omega, hset⟩
          case measure => simp [intOf]; omega
        · have hb2 : (((x : Int) % 2) == 1) = false := beq_eq_false_iff_ne.2 (by omega)
          have hno : ¬ (f + m < 8 * P.size ∧ n3.testBit m = true) := fun hh => by
            rw [bit_of n3 m x hx.out, decide_eq_true_eq] at hh; exact hbit hh.2
          have HA := Lib.hid (any_no P.size f n3 m hno)
          have HT := Lib.hid (turn_no (L P) f n3 m (by rw [hlen]; exact hno))
          have HH := Lib.hid (half_of n3 m x hx.out)
          clear hno
          go_wp2
          go_roundw
          case rel => exact ⟨m + 1, x / 2, by omega, by go_num, by rw [HA.out], by go_num, HH, by omega, by rw [HT.out]; exact hinv⟩
          case measure => simp [intOf]; omega
      · have hno : ¬ (f + m < 8 * P.size ∧ n3.testBit m = true) := fun hh => hk hh.1
        have HA := Lib.hid (any_no P.size f n3 m hno)
        have HT := Lib.hid (turn_no (L P) f n3 m (by rw [hlen]; exact hno))
        have HH := Lib.hid (half_of n3 m x hx.out)
        clear hno
        go_wp2
        go_roundw
        case rel => exact ⟨m + 1, x / 2, by omega, by go_num, by rw [HA.out], by go_num, HH, by omega, by rw [HT.out]; exact hinv⟩
        case measure => simp [intOf]; omega
    · obtain rfl : m = 32 := by omega
      have hcur := turnI_len (L P) f n3 32
      rw [hlen] at hcur
      have hcells : ∀ j (hj : j < (turnI (L P) f n3 32).length), wr.cell? ((⟨w1.heap.size, 0, none⟩ : Addr).add j) = some (.int .u8 ((turnI (L P) f n3 32)[j].toNat : Int)) := fun j hj => by
        rw [Addr.add_lit, Nat.zero_add]; exact hinv.cell j hj
      have hback := run_convert_bytes_back (P := Try.prog) wr 27 9 5 ⟨w1.heap.size, 0, none⟩ (grownCap w1 P.size 0 5) (turnI (L P) f n3 32) Try.underlying27 Try.underlying5 Try.underlying9 hcells
      rw [hcur] at hback
      clear hcells
      have hb9 := hinv.2.1
      have hs9 := hb9.size
      clear hinv hx
      have hcs : (turnI (L P) f n3 32).length ≤ 4108 := by omega
      have HCU := Lib.hid hcur
      clear hcur
      rw [HV.out]
      go_wp2_with fail
      refine (HN.out _).mono ?_
      rintro e w2 ⟨rfl, hb2⟩
      go_wp2_with fail
      refine (awake_any _).mono ?_
      rintro e w3 ⟨rfl, hb3⟩
      go_wp2
      go_ret
      exact ⟨rfl, below_then (below_then hb9 hs9 hb2) (by have := hb2.size; omega) hb3⟩

set_option maxHeartbeats 2000000 in
set_option maxRecDepth 100000 in
theorem Told_main2 (a0 a1 P : ByteArray) (n2 n3 f : Nat) (w : World) (h : a0.size ≤ 4096) (hP1 : 12 ≤ P.size) (hP2 : P.size ≤ 4108) (hcall : ∀ u : World, Calls Try.prog 17 #[.string a0] u fun e w' => e = .returned (.tuple #[.string P, .int .i64 0]) ∧ Below u.heap.size u w')
    (h3 : (((n3 : Int)) == 0) = false) (h1 : a1.size ≤ 5000) (h3b : n3 < 4294967296) (hf : (n2 : Int) % (8 * (P.size : Int)) = (f : Int)) (hf1 : f < 8 * P.size)
    (hav : anyI P.size f n3 32 = true) (hnext : ∀ u : World, Calls Try.prog 19 #[.string ((⟨(turnI (L P) f n3 32).toArray⟩ : ByteArray) ++ a1)] u fun e w' => e = .returned (.tuple #[.string ⟨#[]⟩, .int .i64 0, .int .i64 14]) ∧ Below u.heap.size u w') :
    Calls Try.prog 3 #[.string a0, .string a1, .int .u64 n2, .int .u32 n3] w fun e w' => e = .returned (.bool true) ∧ Below w.heap.size w w' := by
  have HC := Lib.hid hcall
  have HN := Lib.hid hnext
  have HF := Lib.hid hf
  have HV := Lib.hid hav
  clear hcall hnext hf hav
  have hcv : ∀ u : World, (convert 9 27 (.string P)).run Try.prog u = .ok (.slice (some ⟨u.heap.size, 0, none⟩) P.size (grownCap u P.size 0 5)) (u.drew.alloc (.cells (bytesRow P (grownCap u P.size 0 5)) 5 ((bytesRow P (grownCap u P.size 0 5)).size, (bytesRow P (grownCap u P.size 0 5)).size + 1))) := fun u => run_bytes_of_string u 9 27 5 P Try.underlying9 Try.underlying27 Try.underlying5
  go_enter Try.func3, Try.ntmps3
  go_wp2_with fail
  refine (HC.out _).mono ?_
  rintro e w1 ⟨rfl, hb1⟩
  go_wp2
  rw [HF.out, wf64 f P.size hf1 hP2]
  have hlen : (L P).length = P.size := L_len P
  go_loopw [3, 13, 14] (fun z a i wr => ∃ (m x : Nat), m ≤ 32 ∧ i = .int .i64 (m : Int) ∧ a = .bool (anyI P.size f n3 m) ∧ z = .int .u32 (x : Int) ∧ Hid (x = n3 / 2 ^ m) ∧ x < 4294967296 ∧ BInv w1.heap.size (turnI (L P) f n3 m) w wr) (fun _ _ i _ => (32 - intOf i).toNat)
  case atStart =>
    refine ⟨0, n3, by omega, rfl, rfl, rfl, Lib.hid (by simp), h3b, ⟨bytesRow P (grownCap w1 P.size 0 5), ?_, ?_, ?_⟩, ?_, hb1.size⟩
    · exact heap_alloc_new _ _
    · show (L P).length ≤ _
      rw [hlen, bytesRow_size]; omega
    · intro j hj
      have hj' : j < P.data.size := by rw [turnI_len, hlen] at hj; exact hj
      rw [bytesRow_at P _ j hj']; rfl
    · exact below_drew (below_alloc hb1 _)
  case round =>
    obtain ⟨m, x, hm, rfl, rfl, rfl, hx, hxb, hinv⟩ := hrel
    by_cases hm32 : m < 32
    · by_cases hk : f + m < 8 * P.size
      · by_cases hbit : x % 2 = 1
        · have hb2 : (((x : Int) % 2) == 1) = true := beq_iff_eq.2 (by omega)
          have hj : (f + m) / 8 < (turnI (L P) f n3 m).length := by rw [turnI_len, hlen]; omega
          have hc1 := hinv.cell _ hj
          have hc2 := hinv.free _ hj
          have hbm : n3.testBit m = true := by rw [bit_of n3 m x hx.out, decide_eq_true hbit]
          have hty := turn_yes (L P) f n3 m (by rw [hlen]; exact hk) hbm hj
          have hset := hinv.set _ hj (UInt8.ofNat (((turnI (L P) f n3 m)[(f + m) / 8]).toNat ^^^ 2 ^ ((f + m) % 8)))
          rw [← hty, ← xor8 _ _ (UInt8.toNat_lt _) (by omega)] at hset
          have hany := any_yes P.size f n3 m hk hbm
          have hhalf := half_of n3 m x hx.out
          have HA := Lib.hid hany
          have HH := Lib.hid hhalf
          clear hty hany hhalf hbm hinv
          go_wp2
          go_roundw
          case rel => exact ⟨m + 1, x / 2, by omega, by go_num, by rw [HA.out], by go_num, HH, by omega, hset⟩
          case measure => simp [intOf]; omega
        · have hb2 : (((x : Int) % 2) == 1) = false := beq_eq_false_iff_ne.2 (by omega)
          have hno : ¬ (f + m < 8 * P.size ∧ n3.testBit m = true) := fun hh => by
            rw [bit_of n3 m x hx.out, decide_eq_true_eq] at hh; exact hbit hh.2
          have HA := Lib.hid (any_no P.size f n3 m hno)
          have HT := Lib.hid (turn_no (L P) f n3 m (by rw [hlen]; exact hno))
          have HH := Lib.hid (half_of n3 m x hx.out)
          clear hno
          go_wp2
          go_roundw
          case rel => exact ⟨m + 1, x / 2, by omega, by go_num, by rw [HA.out], by go_num, HH, by omega, by rw [HT.out]; exact hinv⟩
          case measure => simp [intOf]; omega
      · have hno : ¬ (f + m < 8 * P.size ∧ n3.testBit m = true) := fun hh => hk hh.1
        have HA := Lib.hid (any_no P.size f n3 m hno)
        have HT := Lib.hid (turn_no (L P) f n3 m (by rw [hlen]; exact hno))
        have HH := Lib.hid (half_of n3 m x hx.out)
        clear hno
        go_wp2
        go_roundw
        case rel => exact ⟨m + 1, x / 2, by omega, by go_num, by rw [HA.out], by go_num, HH, by omega, by rw [HT.out]; exact hinv⟩
        case measure => simp [intOf]; omega
    · obtain rfl : m = 32 := by omega
      have hcur := turnI_len (L P) f n3 32
      rw [hlen] at hcur
      have hcells : ∀ j (hj : j < (turnI (L P) f n3 32).length), wr.cell? ((⟨w1.heap.size, 0, none⟩ : Addr).add j) = some (.int .u8 ((turnI (L P) f n3 32)[j].toNat : Int)) := fun j hj => by
        rw [Addr.add_lit, Nat.zero_add]; exact hinv.cell j hj
      have hback := run_convert_bytes_back (P := Try.prog) wr 27 9 5 ⟨w1.heap.size, 0, none⟩ (grownCap w1 P.size 0 5) (turnI (L P) f n3 32) Try.underlying27 Try.underlying5 Try.underlying9 hcells
      rw [hcur] at hback
      clear hcells
      have hb9 := hinv.2.1
      have hs9 := hb9.size
      clear hinv hx
      have hcs : (turnI (L P) f n3 32).length ≤ 4108 := by omega
      have HCU := Lib.hid hcur
      clear hcur
      rw [HV.out]
      go_wp2_with fail
      refine (HN.out _).mono ?_
      rintro e w2 ⟨rfl, hb2⟩
      go_wp2_with fail
      refine (awake_any _).mono ?_
      rintro e w3 ⟨rfl, hb3⟩
      go_wp2
      go_ret
      exact ⟨rfl, below_then (below_then hb9 hs9 hb2) (by have := hb2.size; omega) hb3⟩

theorem FrameTold_any (a0 a1 : ByteArray) (a2 a3 : Int) (w : World) (w0 : a0.size ≤ 140737488351232) (w1 : a1.size ≤ 140737488351232) (h2 : 0 ≤ a2) (h3 : 0 ≤ a3) (h3b : a3 ≤ 4294967295) :
    Calls Try.prog 3 #[.string a0, .string a1, .int .u64 a2, .int .u32 a3] w fun e w' => e = .returned (.bool true) ∧ Below w.heap.size w w' := by
  by_cases h : a0.size ≤ 4096
  · by_cases hz : a3 = 0
    · subst hz; exact Told_zero a0 a1 a2 w h
    · have hz' : (a3 == 0) = false := beq_eq_false_iff_ne.2 hz
      by_cases h1 : 5000 < a1.size
      · exact Told_rest a0 a1 a2 a3 w h hz' h1 w1
      · obtain ⟨n2, rfl⟩ := Int.eq_ofNat_of_zero_le h2
        obtain ⟨n3, rfl⟩ := Int.eq_ofNat_of_zero_le h3
        have hps : (S (putL (L a0))).size = a0.size + 12 := by rw [S_size, putL_len, L_len]
        have hLP : L (S (putL (L a0))) = putL (L a0) := L_S _
        have hcall := RPut_yes a0 h
        generalize S (putL (L a0)) = P at hps hLP hcall
        have hf0 : 0 ≤ (n2 : Int) % (8 * (P.size : Int)) := Int.emod_nonneg _ (by omega)
        have hf1 : (n2 : Int) % (8 * (P.size : Int)) < 8 * (P.size : Int) := Int.emod_lt_of_pos _ (by omega)
        obtain ⟨f, hf⟩ := Int.eq_ofNat_of_zero_le hf0
        rw [hf] at hf1
        have hcur := turnI_len (L P) f n3 32
        rw [L_len] at hcur
        have hsz : (S (turnI (L P) f n3 32) ++ a1).size ≤ 1099511627776 := by rw [ByteArray.size_append, S_size, hcur]; omega
        have hN := Next_calls (S (turnI (L P) f n3 32) ++ a1) hsz
        rw [L_append, L_S] at hN
        cases hany : anyI P.size f n3 32 with
        | false => exact Told_main0 a0 a1 P n2 n3 f _ _ _ w h (by omega) (by omega) hcall hz' (by omega) (by omega) hf (by omega) hany hN
        | true =>
          obtain ⟨kk, hk1, hk2⟩ := any_ex P.size f n3 32 (Nat.le_refl _) hany
          have htold := told (L a0) (L a1) (turnI (L P) f n3 32) f n3 (by rw [L_len]; exact h) (by rw [hcur, hps, L_len])
            (fun k hk => by rw [turn_bits (L P) f n3 32 k (by rw [L_len, ← hcur]; exact hk), hLP]; rfl) ⟨kk, by rw [hcur]; exact hk1, hk2⟩
          obtain ⟨e1, e2, e3⟩ := nextL_no _ htold
          rw [e1, e2] at hN
          rcases e3 with e3 | e3
          · rw [e3] at hN
            exact Told_main2 a0 a1 P n2 n3 f w h (by omega) (by omega) hcall hz' (by omega) (by omega) hf (by omega) hany hN
          · rw [e3] at hN
            exact Told_main1 a0 a1 P n2 n3 f w h (by omega) (by omega) hcall hz' (by omega) (by omega) hf (by omega) hany hN
  · exact Told_long a0 a1 a2 a3 w h w0
end Go.Proofs.Ytejfdiiennnjjaa.Facts
