/- The sum of 32 bits, as a register of bits that is stepped; what the printed sums of the program and of the document come to, for every text. Records as bytes: what Put and Next, of the program and of the document, come to for every text. What Next, of the program and of the document, comes to for every text. What the document's Next comes to for every text; and that it is the same. What Read, of the program and of the document, comes to for every text; the comparison of lists of texts; the chapter's examples; FrameReads. -/
import Derived.Test.YtejfdiiennnjjaaZc
import Derived.Lib.Strings
import Derived.Laws.BitsLemmas
namespace Go.Proofs.Ytejfdiiennnjjaa.Facts
open Go.RowKit Go.Proofs.Ytejfdiiennnjjaa.F Go.Proofs.YtejfdiiennnjjaaW.PrintWords Go.Proofs.YtejfdiiennnjjaaW.PrintLast Go.Proofs.YtejfdiiennnjjaaW.PrintMore
set_option linter.unusedVariables false

/-- The bytes of a text. -/
def L (s : ByteArray) : List UInt8 := s.data.toList
theorem L_len (s : ByteArray) : (L s).length = s.size := by simp [L]
theorem L_ext {s t : ByteArray} (h : L s = L t) : s = t := by
  cases s; cases t; congr 1; exact Array.toList_inj.1 h
theorem toList_L (s : ByteArray) : s.toList = L s := Lib.toList_data s
theorem bt_L (s : ByteArray) (i : Nat) (h : i < (L s).length) : bt s (i : Int) = ((L s)[i].toNat : Int) := by
  have h' : i < s.size := by rw [← L_len]; exact h
  unfold bt
  rw [dif_pos (by simpa using h')]
  congr 2
theorem bt_L' (s : ByteArray) (i : Nat) (c : UInt8) (r : List UInt8) (h : (L s).drop i = c :: r) : i < s.size ∧ bt s (i : Int) = (c.toNat : Int) ∧ (L s).drop (i + 1) = r := by
  have hi : i < (L s).length := by
    rcases Nat.lt_or_ge i (L s).length with h' | h'
    · exact h'
    · rw [List.drop_eq_nil_of_le h'] at h; cases h
  rw [List.drop_eq_getElem_cons hi] at h
  injection h with h1 h2
  exact ⟨by rw [← L_len]; exact hi, by rw [bt_L s i hi, h1], h2⟩
theorem w64 {i : Int} (h0 : -9223372036854775808 ≤ i) (h1 : i ≤ 9223372036854775807) : wrap64 i = i := by
  unfold wrap64; omega
theorem L_append (s t : ByteArray) : L (s ++ t) = L s ++ L t := by simp [L]
theorem L_extract (s : ByteArray) (i j : Nat) : L (s.extract i j) = ((L s).take j).drop i := by
  simp [L, ByteArray.data_extract, List.drop_take]
theorem L_nums (xs : List Int) : L (strOfNums xs) = xs.map fun n => UInt8.ofNat n.toNat := rfl
def S (l : List UInt8) : ByteArray := ⟨l.toArray⟩
theorem L_S (l : List UInt8) : L (S l) = l := by simp [L, S]
theorem S_size (l : List UInt8) : (S l).size = l.length := by simp [S, ByteArray.size]
theorem S_L (s : ByteArray) : S (L s) = s := L_ext (L_S _)
theorem eq_S {s : ByteArray} {l : List UInt8} (h : L s = l) : s = S l := by rw [← h, S_L]
theorem toList_S (l : List UInt8) : (S l).toList = l := by rw [toList_L, L_S]

/-! ### The register -/
def poly : BitVec 32 := 3988292384#32
def stepB (r : BitVec 32) : BitVec 32 := if r.getLsbD 0 = true then (r >>> 1) ^^^ poly else r >>> 1
def steps : Nat → BitVec 32 → BitVec 32
  | 0, r => r
  | n + 1, r => steps n (stepB r)
def byteB (r : BitVec 32) (c : UInt8) : BitVec 32 := steps 8 (r ^^^ BitVec.ofNat 32 c.toNat)
def crc (l : List UInt8) : BitVec 32 := l.foldl byteB 4294967295#32
/-- The sum of a text. -/
def sumN (l : List UInt8) : Nat := (~~~ crc l).toNat

def RV (r : BitVec 32) : Int := (r.toNat : Int)
theorem R_range (r : BitVec 32) : 0 ≤ RV r ∧ RV r ≤ 4294967295 := by have := r.isLt; unfold RV; omega
theorem wrap_R (r : BitVec 32) : IntKind.u32.wrap (r.toNat : Int) = RV r := by
  have := r.isLt
  rw [IntKind.wrap_u32]; unfold RV; omega
theorem ofInt_R (r : BitVec 32) : BitVec.ofInt 32 (RV r) = r := by
  unfold RV
  rw [BitVec.ofInt_natCast]; simp
theorem xor_R (r q : BitVec 32) : Go.bits .xor .u32 (RV r) (RV q) = RV (r ^^^ q) := by
  show IntKind.u32.wrap ((BitVec.ofInt 32 (RV r) ^^^ BitVec.ofInt 32 (RV q)).toNat : Int) = _
  rw [ofInt_R, ofInt_R, wrap_R]
theorem and_R (r q : BitVec 32) : Go.bits .and .u32 (RV r) (RV q) = RV (r &&& q) := by
  show IntKind.u32.wrap ((BitVec.ofInt 32 (RV r) &&& BitVec.ofInt 32 (RV q)).toNat : Int) = _
  rw [ofInt_R, ofInt_R, wrap_R]
theorem R_inj {r q : BitVec 32} (h : RV r = RV q) : r = q := by
  apply BitVec.eq_of_toNat_eq; unfold RV at h; omega
theorem shr_R (r : BitVec 32) : RV r / (2 : Int) = RV (r >>> 1) := by
  unfold RV
  rw [BitVec.toNat_ushiftRight, Nat.shiftRight_eq_div_pow]; omega
theorem lsb_R (r : BitVec 32) : (RV r % (2 : Int) = (1 : Int)) ↔ r.getLsbD 0 = true := by
  unfold RV
  rw [BitVec.getLsbD, Nat.testBit_zero, decide_eq_true_eq]; omega
theorem and1_R (r : BitVec 32) : (Go.bits .and .u32 (RV r) 1 = 1) ↔ r.getLsbD 0 = true := by
  have h1 : (1 : Int) = RV 1#32 := rfl
  rw [h1, and_R, ← lsb_R]
  have e : (r &&& 1#32).toNat = r.toNat % 2 := by
    rw [BitVec.toNat_and]; exact Nat.and_one_is_mod _
  have e2 : RV (r &&& 1#32) = RV r % (2 : Int) := by unfold RV; rw [e]; omega
  rw [e2]; rfl
theorem not_R (r : BitVec 32) : ((4294967295 : Int) - RV r) % (4294967296 : Int) = RV (~~~ r) := by
  have := r.isLt
  unfold RV
  rw [BitVec.toNat_not]; omega
theorem notx_R (r : BitVec 32) : Go.bits .xor .u32 IntKind.u32.max (RV r) = RV (~~~ r) := by
  have h : IntKind.u32.max = RV 4294967295#32 := rfl
  rw [h, xor_R]
  congr 1
theorem byte_R (c : UInt8) : (c.toNat : Int) = RV (BitVec.ofNat 32 c.toNat) := by
  have := c.toNat_lt
  unfold RV
  rw [BitVec.toNat_ofNat]; omega

theorem steps_succ (n : Nat) (r : BitVec 32) : steps (n + 1) r = steps n (stepB r) := rfl

theorem frame_l1 (s : ByteArray) (n j : Int) (out : Int) : ∀ (d : Nat) (i : Int) (r : BitVec 32), i + d = 8 → 0 ≤ i → 
    Ev (fun k => frame_Sum.l0 k s (RV (steps d r)) n (wrap64 (j + 1))) out → Ev (fun k => frame_Sum.l1 k s (RV r) n j i) out := by
  intro d
  induction d with
  | zero =>
    intro i r h h0 ho
    refine Ev.step (f := fun k => frame_Sum.l0 k s (RV r) n (wrap64 (j + 1))) (fun k => ?_) ho
    rw [frame_Sum.l1, if_neg (by omega)]
  | succ d ih =>
    intro i r h h0 ho
    rw [steps_succ] at ho
    refine Ev.step (f := fun k => frame_Sum.l1 k s (RV (stepB r)) n j (i + 1)) (fun k => ?_) (ih (i + 1) _ (by push_cast at h; omega) (by omega) ho)
    rw [frame_Sum.l1, if_pos (by omega), w64 (by omega) (by omega)]
    unfold stepB
    by_cases hb : r.getLsbD 0 = true
    · rw [if_pos ((and1_R r).2 hb), if_pos hb, shr_R, show (3988292384 : Int) = RV poly from rfl, xor_R]
    · rw [if_neg (fun h => hb ((and1_R r).1 h)), if_neg hb, shr_R]

theorem frame_l0 (s : ByteArray) (hn : s.size ≤ 140737488351232) : ∀ (rest : List UInt8) (i : Nat) (r : BitVec 32), (L s).drop i = rest → i ≤ s.size →
    Ev (fun k => frame_Sum.l0 k s (RV r) (s.size : Int) (i : Int)) (RV (~~~ (rest.foldl byteB r))) := by
  intro rest
  induction rest with
  | nil =>
    intro i r h hi
    have hi' : s.size ≤ i := by rw [← L_len]; exact List.drop_eq_nil_iff.1 h
    refine Ev.step (f := fun _ => some (RV (~~~ r))) (fun k => ?_) (Ev.now _)
    rw [frame_Sum.l0, if_neg (by omega), ← notx_R]
  | cons c rest ih =>
    intro i r h hi
    obtain ⟨hlt, hc, hr⟩ := bt_L' s i c rest h
    have hcl := c.toNat_lt
    have hw : wrap64 ((i : Int) + 1) = ((i + 1 : Nat) : Int) := by rw [w64 (by omega) (by omega)]; push_cast; rfl
    refine Ev.step (f := fun k => frame_Sum.l1 k s (RV (r ^^^ BitVec.ofNat 32 c.toNat)) (s.size : Int) (i : Int) 0) (fun k => ?_) ?_
    · rw [frame_Sum.l0, if_pos (by omega), if_pos (by omega), if_pos (by omega), hc, show (c.toNat : Int) % (4294967296 : Int) = (c.toNat : Int) by omega, byte_R, xor_R]
    · refine frame_l1 s _ _ _ 8 0 _ (by omega) (by omega) ?_
      rw [hw]
      exact ih (i + 1) _ hr (by omega)

theorem Sum_ev (s : ByteArray) (hn : s.size ≤ 140737488351232) : Ev (fun k => frame_Sum.f k s) (sumN (L s) : Int) :=
  frame_l0 s hn (L s) 0 4294967295#32 (by simp) (by omega)

theorem ref_l1 (s : ByteArray) (j : Int) (out : Int) : ∀ (d : Nat) (i : Int) (r : BitVec 32), i + d = 8 → 0 ≤ i → 
    Ev (fun k => lombardref07_Sum.l0 k s (RV (steps d r)) (wrap64 (j + 1))) out → Ev (fun k => lombardref07_Sum.l1 k s (RV r) j i) out := by
  intro d
  induction d with
  | zero =>
    intro i r h h0 ho
    refine Ev.step (f := fun k => lombardref07_Sum.l0 k s (RV r) (wrap64 (j + 1))) (fun k => ?_) ho
    rw [lombardref07_Sum.l1, if_neg (by omega)]
  | succ d ih =>
    intro i r h h0 ho
    have hr := R_range r
    have hsh := R_range (r >>> 1)
    have e : Int.tdiv (RV r) (2 : Int) % (4294967296 : Int) = RV (r >>> 1) := by
      rw [Int.tdiv_eq_ediv_of_nonneg hr.1, shr_R]; omega
    rw [steps_succ] at ho
    refine Ev.step (f := fun k => lombardref07_Sum.l1 k s (RV (stepB r)) j (i + 1)) (fun k => ?_) (ih (i + 1) _ (by push_cast at h; omega) (by omega) ho)
    rw [lombardref07_Sum.l1, if_pos (by omega), w64 (by omega) (by omega), Int.tmod_eq_emod_of_nonneg hr.1, e]
    unfold stepB
    by_cases hb : r.getLsbD 0 = true
    · rw [if_pos ((lsb_R r).2 hb), if_pos hb, show (3988292384 : Int) = RV poly from rfl, xor_R]
    · rw [if_neg (fun h => hb ((lsb_R r).1 h)), if_neg hb]

theorem ref_l0 (s : ByteArray) (hn : s.size ≤ 140737488351232) : ∀ (rest : List UInt8) (i : Nat) (r : BitVec 32), (L s).drop i = rest → i ≤ s.size →
    Ev (fun k => lombardref07_Sum.l0 k s (RV r) (i : Int)) (RV (~~~ (rest.foldl byteB r))) := by
  intro rest
  induction rest with
  | nil =>
    intro i r h hi
    have hi' : s.size ≤ i := by rw [← L_len]; exact List.drop_eq_nil_iff.1 h
    refine Ev.step (f := fun _ => some (RV (~~~ r))) (fun k => ?_) (Ev.now _)
    rw [lombardref07_Sum.l0, if_neg (by omega), not_R]
  | cons c rest ih =>
    intro i r h hi
    obtain ⟨hlt, hc, hr⟩ := bt_L' s i c rest h
    have hcl := c.toNat_lt
    have hw : wrap64 ((i : Int) + 1) = ((i + 1 : Nat) : Int) := by rw [w64 (by omega) (by omega)]; push_cast; rfl
    refine Ev.step (f := fun k => lombardref07_Sum.l1 k s (RV (r ^^^ BitVec.ofNat 32 c.toNat)) (i : Int) 0) (fun k => ?_) ?_
    · rw [lombardref07_Sum.l0, if_pos (by omega), if_pos (by omega), hc, show (c.toNat : Int) % (4294967296 : Int) = (c.toNat : Int) by omega, byte_R, xor_R]
    · refine ref_l1 s _ _ 8 0 _ (by omega) (by omega) ?_
      rw [hw]
      exact ih (i + 1) _ hr (by omega)

theorem RSum_ev (s : ByteArray) (hn : s.size ≤ 140737488351232) : Ev (fun k => lombardref07_Sum.f k s) (sumN (L s) : Int) :=
  ref_l0 s hn (L s) 0 4294967295#32 (by simp) (by omega)

end Go.Proofs.Ytejfdiiennnjjaa.Facts
namespace Go.Proofs.Ytejfdiiennnjjaa.Facts
open Go.RowKit Go.Proofs.Ytejfdiiennnjjaa.F Go.Proofs.YtejfdiiennnjjaaW.PrintWords Go.Proofs.YtejfdiiennnjjaaW.PrintLast Go.Proofs.YtejfdiiennnjjaaW.PrintMore
set_option linter.unusedVariables false

theorem empty_S : (⟨#[]⟩ : ByteArray) = S [] := rfl
theorem sumN_lt (l : List UInt8) : sumN l < 4294967296 := (~~~ crc l).isLt
/-- A number in four bytes, the lowest first; and four bytes' number. -/
def fourL (n : Nat) : List UInt8 := [UInt8.ofNat (n % 256), UInt8.ofNat (n / 256 % 256), UInt8.ofNat (n / 65536 % 256), UInt8.ofNat (n / 16777216 % 256)]
def numL : List UInt8 → Nat
  | a :: b :: c :: d :: _ => a.toNat + 256 * b.toNat + 65536 * c.toNat + 16777216 * d.toNat
  | _ => 0
theorem fourL_len (n : Nat) : (fourL n).length = 4 := rfl
theorem numL_lt (l : List UInt8) : numL l < 4294967296 := by
  unfold numL
  split
  · rename_i a b c d _
    have := a.toNat_lt; have := b.toNat_lt; have := c.toNat_lt; have := d.toNat_lt
    omega
  · omega
theorem ofNat_toNat8 (n : Nat) (h : n < 256) : (UInt8.ofNat n).toNat = n := by rw [UInt8.toNat_ofNat']; omega
theorem ofNat_of (c : UInt8) (n : Nat) (h : n = c.toNat) : UInt8.ofNat n = c := by
  apply UInt8.toNat_inj.1; rw [h, ofNat_toNat8 _ c.toNat_lt]
theorem numL_fourL (n : Nat) (h : n < 4294967296) (r : List UInt8) : numL (fourL n ++ r) = n := by
  show numL (UInt8.ofNat (n % 256) :: UInt8.ofNat (n / 256 % 256) :: UInt8.ofNat (n / 65536 % 256) :: UInt8.ofNat (n / 16777216 % 256) :: r) = n
  unfold numL
  simp only
  rw [ofNat_toNat8 _ (by omega), ofNat_toNat8 _ (by omega), ofNat_toNat8 _ (by omega), ofNat_toNat8 _ (by omega)]
  omega
theorem fourL_numL (a b c d : UInt8) (r : List UInt8) : fourL (numL (a :: b :: c :: d :: r)) = [a, b, c, d] := by
  have ha := a.toNat_lt; have hb := b.toNat_lt; have hc := c.toNat_lt; have hd := d.toNat_lt
  unfold fourL numL
  simp only
  rw [ofNat_of a _ (by omega), ofNat_of b _ (by omega), ofNat_of c _ (by omega), ofNat_of d _ (by omega)]
theorem fourL_inj {m n : Nat} (hm : m < 4294967296) (hn : n < 4294967296) (h : fourL m = fourL n) : m = n := by
  have := numL_fourL m hm []
  rw [h, numL_fourL n hn []] at this
  exact this.symm

theorem four_eq (n : Nat) (h : n < 4294967296) : frame_four.f (n : Int) = some (S (fourL n)) := by
  unfold frame_four.f
  refine congrArg some (eq_S ?_)
  rw [L_nums]
  simp only [List.map_cons, List.map_nil, fourL]
  rw [show ((n : Int) % 256).toNat = n % 256 by omega, show ((n : Int) / 256 % 256).toNat = n / 256 % 256 by omega, show ((n : Int) / 65536 % 256).toNat = n / 65536 % 256 by omega, show ((n : Int) / 16777216 % 256).toNat = n / 16777216 % 256 by omega]
theorem rfour_eq (n : Nat) (h : n < 4294967296) : lombardref07_four.f (n : Int) = some (S (fourL n)) := by
  unfold lombardref07_four.f
  refine congrArg some (eq_S ?_)
  rw [L_nums, Int.tmod_eq_emod_of_nonneg (by omega), Int.tdiv_eq_ediv_of_nonneg (by omega), Int.tdiv_eq_ediv_of_nonneg (by omega), Int.tdiv_eq_ediv_of_nonneg (by omega)]
  simp only [List.map_cons, List.map_nil, fourL]
  rw [show ((n : Int) % 256 % 256).toNat = n % 256 by omega, show ((n : Int) / 256 % 4294967296 % 256).toNat = n / 256 % 256 by omega, show ((n : Int) / 65536 % 4294967296 % 256).toNat = n / 65536 % 256 by omega, show ((n : Int) / 16777216 % 4294967296 % 256).toNat = n / 16777216 % 256 by omega]

/-- A record as it is laid. -/
def putL (l : List UInt8) : List UInt8 := fourL l.length ++ (fourL (4294967295 - l.length) ++ (l ++ fourL (sumN l)))
theorem putL_len (l : List UInt8) : (putL l).length = l.length + 12 := by simp [putL, fourL_len]; omega
def putS (l : List UInt8) : ByteArray × Int := if l.length ≤ 4096 then (S (putL l), 0) else (S [], 2)

theorem not8 (b : Nat) (h : b < 256) : Go.bits .xor .u8 IntKind.u8.max (b : Int) = 255 - (b : Int) := by
  have e : ∀ x : BitVec 8, BitVec.ofInt 8 255 ^^^ x = ~~~ x := fun x => by
    rw [show BitVec.ofInt 8 255 = BitVec.allOnes 8 from rfl, BitVec.allOnes_xor]
  show IntKind.u8.wrap ((BitVec.ofInt 8 255 ^^^ BitVec.ofInt 8 (b : Int)).toNat : Int) = _
  rw [e, BitVec.toNat_not, BitVec.ofInt_natCast, BitVec.toNat_ofNat, IntKind.wrap_u8]
  omega
theorem notn (n : Nat) (h : n ≤ 4294967295) : Go.bits .xor .u32 IntKind.u32.max (n : Int) = ((4294967295 - n : Nat) : Int) := by
  have := notx_R (BitVec.ofNat 32 n)
  unfold RV at this
  rw [BitVec.toNat_not, BitVec.toNat_ofNat, Nat.mod_eq_of_lt (by omega)] at this
  rw [this]

theorem Put_ev (s : ByteArray) (hs : s.size ≤ 140737488351232) : Ev (fun k => frame_Put.f k s) (putS (L s)) := by
  unfold frame_Put.f putS
  rw [L_len]
  by_cases h : s.size ≤ 4096
  · rw [if_pos h]
    have e1 : (s.size : Int) % 4294967296 = (s.size : Int) := by omega
    have hn := notn s.size (by omega)
    have l1 : (S (fourL s.size)).size = 4 := by rw [S_size, fourL_len]
    have l2 : (S (fourL (4294967295 - s.size))).size = 4 := by rw [S_size, fourL_len]
    refine Ev.congr (f := fun k => (frame_Sum.f k s).bind fun t => (frame_four.f t).bind fun t2 => if ((S (fourL s.size) ++ S (fourL (4294967295 - s.size))) ++ s).size + t2.size ≤ 9223372036854775807 then some (((S (fourL s.size) ++ S (fourL (4294967295 - s.size))) ++ s) ++ t2, 0) else none) (fun k => ?_) (Ev.bind (Sum_ev s hs) ?_)
    · rw [if_neg (by omega), e1, hn, four_eq _ (by omega), four_eq _ (by omega)]
      simp only [Option.bind_some]
      rw [if_pos (by rw [l1, l2]; omega), if_pos (by rw [ByteArray.size_append, l1, l2]; omega)]
    · refine Ev.congr (f := fun _ => some (S (putL (L s)), 0)) (fun k => ?_) (Ev.now _)
      rw [four_eq _ (sumN_lt _)]
      simp only [Option.bind_some]
      rw [if_pos (by rw [ByteArray.size_append, ByteArray.size_append, l1, l2, S_size, fourL_len]; omega)]
      refine congrArg (fun x => some (x, (0 : Int))) (eq_S ?_)
      rw [L_append, L_append, L_append, L_S, L_S, L_S, putL, L_len, List.append_assoc, List.append_assoc]
  · rw [if_neg h]
    refine Ev.congr (f := fun _ => some (S [], 2)) (fun k => ?_) (Ev.now _)
    rw [if_pos (by omega), empty_S]

theorem RPut_ev (s : ByteArray) (hs : s.size ≤ 140737488351232) : Ev (fun k => lombardref07_Put.f k s) (putS (L s)) := by
  unfold lombardref07_Put.f putS
  rw [L_len]
  by_cases h : s.size ≤ 4096
  · rw [if_pos h]
    have e1 : (s.size : Int) % 4294967296 = (s.size : Int) := by omega
    have hn : (4294967295 : Int) - (s.size : Int) = ((4294967295 - s.size : Nat) : Int) := by omega
    have l1 : (S (fourL s.size)).size = 4 := by rw [S_size, fourL_len]
    have l2 : (S (fourL (4294967295 - s.size))).size = 4 := by rw [S_size, fourL_len]
    refine Ev.congr (f := fun k => (lombardref07_Sum.f k s).bind fun t => (lombardref07_four.f t).bind fun t2 => if ((S (fourL s.size) ++ S (fourL (4294967295 - s.size))) ++ s).size + t2.size ≤ 9223372036854775807 then some (((S (fourL s.size) ++ S (fourL (4294967295 - s.size))) ++ s) ++ t2, 0) else none) (fun k => ?_) (Ev.bind (RSum_ev s hs) ?_)
    · rw [if_neg (by omega), e1, hn, rfour_eq _ (by omega), rfour_eq _ (by omega)]
      simp only [Option.bind_some]
      rw [if_pos (by rw [l1, l2]; omega), if_pos (by rw [ByteArray.size_append, l1, l2]; omega)]
    · refine Ev.congr (f := fun _ => some (S (putL (L s)), 0)) (fun k => ?_) (Ev.now _)
      rw [rfour_eq _ (sumN_lt _)]
      simp only [Option.bind_some]
      rw [if_pos (by rw [ByteArray.size_append, ByteArray.size_append, l1, l2, S_size, fourL_len]; omega)]
      refine congrArg (fun x => some (x, (0 : Int))) (eq_S ?_)
      rw [L_append, L_append, L_append, L_S, L_S, L_S, putL, L_len, List.append_assoc, List.append_assoc]
  · rw [if_neg h]
    refine Ev.congr (f := fun _ => some (S [], 2)) (fun k => ?_) (Ev.now _)
    rw [if_pos (by omega), empty_S]

theorem four_cases (l : List UInt8) (h : 4 ≤ l.length) : ∃ a b c d r, l = a :: b :: c :: d :: r := by
  match l, h with
  | a :: b :: c :: d :: r, _ => exact ⟨a, b, c, d, r, rfl⟩
theorem bts (s : ByteArray) (a b c d : UInt8) (r : List UInt8) (h : L s = a :: b :: c :: d :: r) :
    bt s 0 = (a.toNat : Int) ∧ bt s 1 = (b.toNat : Int) ∧ bt s 2 = (c.toNat : Int) ∧ bt s 3 = (d.toNat : Int) := by
  refine ⟨?_, ?_, ?_, ?_⟩
  · exact (bt_L' s 0 a _ (by rw [h]; rfl)).2.1
  · exact (bt_L' s 1 b _ (by rw [h]; rfl)).2.1
  · exact (bt_L' s 2 c _ (by rw [h]; rfl)).2.1
  · exact (bt_L' s 3 d _ (by rw [h]; rfl)).2.1
theorem orj (x y : Int) (i : Nat) (hx0 : 0 ≤ x) (hx : x < 4294967296) (hm : x % 2 ^ i = 0) (hy0 : 0 ≤ y) (hy : y < 2 ^ i) (hy1 : y < 4294967296) : Go.bits .or .u32 x y = x + y :=
  bits_join .u32 32 (by decide) (fun n h0 h1 => by rw [IntKind.wrap_u32]; omega) i x y hx0 hm (by simpa using hx) hy0 hy (by simpa using hy1)
theorem or_comm (x y : Int) : Go.bits .or .u32 x y = Go.bits .or .u32 y x := by
  unfold Go.bits
  simp only
  rw [BitVec.or_comm]
theorem number_eq (s : ByteArray) (h : 4 ≤ s.size) : frame_number.f s = some (numL (L s) : Int) := by
  obtain ⟨a, b, c, d, r, hl⟩ := four_cases (L s) (by rw [L_len]; exact h)
  obtain ⟨e0, e1, e2, e3⟩ := bts s a b c d r hl
  have ha := a.toNat_lt; have hb := b.toNat_lt; have hc := c.toNat_lt; have hd := d.toNat_lt
  unfold frame_number.f
  rw [if_pos (by omega), if_pos (by omega), if_pos (by omega), if_pos (by omega), e0, e1, e2, e3, hl]
  refine congrArg some ?_
  rw [show (a.toNat : Int) % 4294967296 = (a.toNat : Int) by omega, show (b.toNat : Int) % 4294967296 * 256 % 4294967296 = (b.toNat : Int) * 256 by omega, show (c.toNat : Int) % 4294967296 * 65536 % 4294967296 = (c.toNat : Int) * 65536 by omega, show (d.toNat : Int) % 4294967296 * 16777216 % 4294967296 = (d.toNat : Int) * 16777216 by omega]
  rw [or_comm (a.toNat : Int), orj ((b.toNat : Int) * 256) _ 8 (by omega) (by omega) (by omega) (by omega) (by omega) (by omega)]
  rw [or_comm _ ((c.toNat : Int) * 65536), orj ((c.toNat : Int) * 65536) _ 16 (by omega) (by omega) (by omega) (by omega) (by omega) (by omega)]
  rw [or_comm _ ((d.toNat : Int) * 16777216), orj ((d.toNat : Int) * 16777216) _ 24 (by omega) (by omega) (by omega) (by omega) (by omega) (by omega)]
  unfold numL
  simp only
  omega

/-- Do the bytes from 4 to 7, as far as they are there, turn those from 0 to 3? -/
def hdrFrom (l : List UInt8) : Nat → Nat → Bool
  | 0, _ => true
  | d + 1, i => if i < l.length then decide ((l.getD i 0).toNat + (l.getD (i - 4) 0).toNat = 255) && hdrFrom l d (i + 1) else true
def hdr (l : List UInt8) : Bool := hdrFrom l 4 4

/-- The record that a text begins with, how many bytes it takes, and what is wrong. -/
def nextL (l : List UInt8) : ByteArray × Int × Int :=
  if hdr l = true then
    if l.length < 8 then (S [], 0, 14)
    else if 4096 < numL l then (S [], 0, 15)
    else if l.length < numL l + 12 then (S [], 0, 14)
    else if numL (l.drop (8 + numL l)) = sumN ((l.drop 8).take (numL l)) then (S ((l.drop 8).take (numL l)), ((numL l + 12 : Nat) : Int), 0)
    else (S [], 0, 15)
  else (S [], 0, 15)

theorem bt_getD (s : ByteArray) (i : Nat) (h : i < s.size) : bt s (i : Int) = (((L s).getD i 0).toNat : Int) := by
  rw [bt_L s i (by rw [L_len]; exact h), List.getD_eq_getElem?_getD, List.getElem?_eq_getElem (by rw [L_len]; exact h), Option.getD_some]

end Go.Proofs.Ytejfdiiennnjjaa.Facts
namespace Go.Proofs.Ytejfdiiennnjjaa.Facts
open Go.RowKit Go.Proofs.Ytejfdiiennnjjaa.F Go.Proofs.YtejfdiiennnjjaaW.PrintWords Go.Proofs.YtejfdiiennnjjaaW.PrintLast Go.Proofs.YtejfdiiennnjjaaW.PrintMore
set_option linter.unusedVariables false

theorem Ev.from {α : Type} {g : Nat → Option α} {r : α} (K : Nat) (h : ∀ m, K ≤ m → g (m + 1) = some r) : Ev g r := by
  refine ⟨K + 1, fun n hn => ?_⟩
  obtain ⟨m, rfl⟩ : ∃ m, n = m + 1 := ⟨n - 1, by omega⟩
  exact h m (by omega)

theorem Next_tail (s : ByteArray) (hs : s.size ≤ 1099511627776) (x : Int) (h8 : ¬ x < mn (s.size : Int) 8) :
    Ev (fun k => frame_Next.l0 k s x) (if s.size < 8 then (S [], 0, 14)
    else if 4096 < numL (L s) then (S [], 0, 15)
    else if s.size < numL (L s) + 12 then (S [], 0, 14)
    else if numL ((L s).drop (8 + numL (L s))) = sumN (((L s).drop 8).take (numL (L s))) then (S (((L s).drop 8).take (numL (L s))), ((numL (L s) + 12 : Nat) : Int), 0)
    else (S [], 0, 15)) := by
  have hnl := numL_lt (L s)
  by_cases h1 : s.size < 8
  · rw [if_pos h1]
    refine Ev.step (f := fun _ => some (S [], 0, 14)) (fun k => ?_) (Ev.now _)
    rw [frame_Next.l0, if_neg h8, if_pos (by omega), empty_S]
  · rw [if_neg h1]
    have hnum := number_eq s (by omega)
    have e1 : wrap64 (numL (L s) : Int) = (numL (L s) : Int) := w64 (by omega) (by omega)
    have e2 : wrap64 (8 + (numL (L s) : Int)) = ((8 + numL (L s) : Nat) : Int) := by rw [w64 (by omega) (by omega)]; push_cast; rfl
    have e3 : wrap64 (((8 + numL (L s) : Nat) : Int) + 4) = ((numL (L s) + 12 : Nat) : Int) := by rw [w64 (by omega) (by omega)]; push_cast; omega
    by_cases h2 : 4096 < numL (L s)
    · rw [if_pos h2]
      refine Ev.step (f := fun _ => some (S [], 0, 15)) (fun k => ?_) (Ev.now _)
      rw [frame_Next.l0, if_neg h8, if_neg (by omega), hnum, Option.bind_some, e1, if_pos (by omega), empty_S]
    · rw [if_neg h2]
      by_cases h3 : s.size < numL (L s) + 12
      · rw [if_pos h3]
        refine Ev.step (f := fun _ => some (S [], 0, 14)) (fun k => ?_) (Ev.now _)
        rw [frame_Next.l0, if_neg h8, if_neg (by omega), hnum, Option.bind_some, e1, e2, e3, if_neg (by omega), if_pos (by omega), empty_S]
      · rw [if_neg h3]
        have hx1 : L (s.extract 8 (8 + numL (L s))) = ((L s).drop 8).take (numL (L s)) := by
          rw [L_extract, List.drop_take]
          congr 1; omega
        have hx2 : L (s.extract (8 + numL (L s)) s.size) = (L s).drop (8 + numL (L s)) := by
          rw [L_extract, ← L_len, List.take_length]
        have hn2 := number_eq (s.extract (8 + numL (L s)) s.size) (by rw [← L_len, hx2, List.length_drop, L_len]; omega)
        rw [hx2] at hn2
        have hsum := Sum_ev (s.extract 8 (8 + numL (L s))) (by rw [← L_len, hx1, List.length_take]; omega)
        rw [hx1] at hsum
        have er := eq_S hx1
        obtain ⟨K, hK⟩ := hsum
        refine Ev.from K (fun m hm => ?_)
        have hk : frame_Sum.f m (s.extract 8 (8 + numL (L s))) = some (sumN (((L s).drop 8).take (numL (L s))) : Int) := hK m hm
        rw [frame_Next.l0, if_neg h8, if_neg (by omega), hnum, Option.bind_some, e1, e2, e3, Int.toNat_natCast, if_neg (by omega), if_neg (by omega), if_pos (by omega), if_pos (by omega), if_pos (by omega), hn2, Option.bind_some, hk, Option.bind_some, empty_S, er]
        by_cases h4 : numL ((L s).drop (8 + numL (L s))) = sumN (((L s).drop 8).take (numL (L s)))
        · rw [if_pos h4, if_pos (by rw [h4])]
        · rw [if_neg h4, if_neg (by omega)]

theorem Next_round (s : ByteArray) (i u1 u2 k : Nat) (hi : i < s.size) (hs : s.size ≤ 1099511627776) (h4 : 4 ≤ i) (h8 : i < 8) (hb1 : bt s (i : Int) = (u1 : Int)) (hb2 : bt s ((i - 4 : Nat) : Int) = (u2 : Int)) (l2 : u2 < 256) :
    frame_Next.l0 (k + 1) s (i : Int) = if u1 + u2 = 255 then frame_Next.l0 k s ((i + 1 : Nat) : Int) else some (S [], 0, 15) := by
  have hm : (i : Int) < mn (s.size : Int) 8 := by unfold mn; split <;> omega
  have e4 : wrap64 ((i : Int) - 4) = ((i - 4 : Nat) : Int) := by rw [w64 (by omega) (by omega)]; omega
  have e5 : wrap64 ((i : Int) + 1) = ((i + 1 : Nat) : Int) := by rw [w64 (by omega) (by omega)]; omega
  have g1 : (0 : Int) ≤ (i : Int) := by omega
  have g2 : (i : Int) < (s.size : Int) := by omega
  have g3 : (0 : Int) ≤ ((i - 4 : Nat) : Int) := by omega
  have g4 : ((i - 4 : Nat) : Int) < (s.size : Int) := by omega
  rw [frame_Next.l0, if_pos hm, if_pos g1, if_pos g2, e4, if_pos g3, if_pos g4, hb1, hb2, not8 _ l2, e5, empty_S]
  by_cases h : u1 + u2 = 255
  · have g5 : (u1 : Int) = 255 - (u2 : Int) := by omega
    rw [if_pos g5, if_pos h]
  · have g5 : ¬ (u1 : Int) = 255 - (u2 : Int) := by omega
    rw [if_neg g5, if_neg h]

theorem Next_l0 (s : ByteArray) (hs : s.size ≤ 1099511627776) (out : ByteArray × Int × Int) (hout : ∀ x : Int, ¬ x < mn (s.size : Int) 8 → Ev (fun k => frame_Next.l0 k s x) out) :
    ∀ (d i : Nat), i + d = 8 → 4 ≤ i → Ev (fun k => frame_Next.l0 k s (i : Int)) (if hdrFrom (L s) d i = true then out else (S [], 0, 15)) := by
  intro d
  induction d with
  | zero =>
    intro i h h4
    simp only [hdrFrom, if_true]
    exact hout _ (by unfold mn; split <;> omega)
  | succ d ih =>
    intro i h h4
    unfold hdrFrom
    rw [L_len]
    by_cases hi : i < s.size
    · rw [if_pos hi]
      have l2 : ((L s).getD (i - 4) 0).toNat < 256 := ((L s).getD (i - 4) 0).toNat_lt
      have hr := fun k => Next_round s i _ _ k hi hs h4 (by omega) (bt_getD s i hi) (bt_getD s (i - 4) (by omega)) l2
      have ih' := ih (i + 1) (by omega) (by omega)
      by_cases he : ((L s).getD i 0).toNat + ((L s).getD (i - 4) 0).toNat = 255
      · rw [decide_eq_true he, Bool.true_and]
        exact Ev.step (fun k => (hr k).trans (if_pos he)) ih'
      · rw [decide_eq_false he, Bool.false_and, if_neg (by simp)]
        exact Ev.step (fun k => (hr k).trans (if_neg he)) (Ev.now _)
    · rw [if_neg hi, if_pos rfl]
      exact hout _ (by unfold mn; split <;> omega)

theorem Next_ev (s : ByteArray) (hs : s.size ≤ 1099511627776) : Ev (fun k => frame_Next.f k s) (nextL (L s)) := by
  have h := Next_l0 s hs _ (Next_tail s hs) 4 4 rfl (by omega)
  unfold nextL hdr
  rw [L_len]
  exact h

end Go.Proofs.Ytejfdiiennnjjaa.Facts
namespace Go.Proofs.Ytejfdiiennnjjaa.Facts
open Go.RowKit Go.Proofs.Ytejfdiiennnjjaa.F Go.Proofs.YtejfdiiennnjjaaW.PrintWords Go.Proofs.YtejfdiiennnjjaaW.PrintLast Go.Proofs.YtejfdiiennnjjaaW.PrintMore
set_option linter.unusedVariables false

theorem eight_cases (l : List UInt8) (h : 8 ≤ l.length) : ∃ a b c d e f g i r, l = a :: b :: c :: d :: e :: f :: g :: i :: r := by
  match l, h with
  | a :: b :: c :: d :: e :: f :: g :: i :: r, _ => exact ⟨a, b, c, d, e, f, g, i, r, rfl⟩
theorem hdr_eight (a b c d e f g i : UInt8) (r : List UInt8) : hdr (a :: b :: c :: d :: e :: f :: g :: i :: r) = true ↔
    e.toNat + a.toNat = 255 ∧ f.toNat + b.toNat = 255 ∧ g.toNat + c.toNat = 255 ∧ i.toNat + d.toNat = 255 := by
  simp [hdr, hdrFrom]
/-- The bytes behind a length that is told right. -/
theorem turned (a b c d e f g i : UInt8) (r : List UInt8) (h1 : e.toNat + a.toNat = 255) (h2 : f.toNat + b.toNat = 255) (h3 : g.toNat + c.toNat = 255) (h4 : i.toNat + d.toNat = 255) :
    fourL (4294967295 - numL (a :: b :: c :: d :: e :: f :: g :: i :: r)) = [e, f, g, i] := by
  have ha := a.toNat_lt; have hb := b.toNat_lt; have hc := c.toNat_lt; have hd := d.toNat_lt
  unfold fourL numL
  simp only
  rw [ofNat_of e _ (by omega), ofNat_of f _ (by omega), ofNat_of g _ (by omega), ofNat_of i _ (by omega)]

theorem take4 (l : List UInt8) (h : 4 ≤ l.length) : fourL (numL l) = l.take 4 := by
  obtain ⟨a, b, c, d, r, rfl⟩ := four_cases l h
  rw [fourL_numL]; rfl
theorem numL_take (l : List UInt8) (h : 4 ≤ l.length) : numL (l.take 4) = numL l := by
  obtain ⟨a, b, c, d, r, rfl⟩ := four_cases l h
  rfl

/-- A text begins with a record laid just so, or it does not. -/
theorem put_take (l : List UInt8) (h8 : 8 ≤ l.length) (hh : hdr l = true) (n : Nat) (hn : n = numL l) (hl : n + 12 ≤ l.length) :
    (putL ((l.drop 8).take n) = l.take (n + 12)) ↔ numL (l.drop (8 + n)) = sumN ((l.drop 8).take n) := by
  have hlen : ((l.drop 8).take n).length = n := by rw [List.length_take, List.length_drop]; omega
  have e1 : l.take (n + 12) = l.take 8 ++ (((l.drop 8).take n) ++ (l.drop (8 + n)).take 4) := by
    rw [show n + 12 = 8 + (n + 4) by omega, List.take_add, List.take_add, List.drop_drop]
  have e2 : fourL n ++ fourL (4294967295 - n) = l.take 8 := by
    obtain ⟨a, b, c, d, e, f, g, i, r, rfl⟩ := eight_cases l h8
    obtain ⟨h1, h2, h3, h4⟩ := (hdr_eight a b c d e f g i r).1 hh
    rw [hn, turned a b c d e f g i r h1 h2 h3 h4, fourL_numL]; rfl
  have e3 : putL ((l.drop 8).take n) = l.take 8 ++ (((l.drop 8).take n) ++ fourL (sumN ((l.drop 8).take n))) := by
    unfold putL
    rw [hlen, ← List.append_assoc, e2]
  rw [e1, e3]
  have h4 : 4 ≤ (l.drop (8 + n)).length := by rw [List.length_drop]; omega
  constructor
  · intro h
    have h := List.append_cancel_left (List.append_cancel_left h)
    have hx := numL_fourL (sumN ((l.drop 8).take n)) (sumN_lt _) []
    rw [List.append_nil, h, numL_take _ h4] at hx
    exact hx
  · intro h
    rw [← h, take4 _ h4]

theorem RNum (s : ByteArray) (h : 4 ≤ s.size) : wrap64 (wrap64 (wrap64 (wrap64 (bt s 0) + wrap64 (256 * wrap64 (bt s 1))) + wrap64 (65536 * wrap64 (bt s 2))) + wrap64 (16777216 * wrap64 (bt s 3))) = (numL (L s) : Int) := by
  obtain ⟨a, b, c, d, r, hl⟩ := four_cases (L s) (by rw [L_len]; exact h)
  obtain ⟨e0, e1, e2, e3⟩ := bts s a b c d r hl
  have ha := a.toNat_lt; have hb := b.toNat_lt; have hc := c.toNat_lt; have hd := d.toNat_lt
  rw [e0, e1, e2, e3, hl]
  unfold numL
  simp only
  generalize a.toNat = a at *
  generalize b.toNat = b at *
  generalize c.toNat = c at *
  generalize d.toNat = d at *
  rw [w64 (i := (a : Int)) (by omega) (by omega), w64 (i := (b : Int)) (by omega) (by omega), w64 (i := (c : Int)) (by omega) (by omega), w64 (i := (d : Int)) (by omega) (by omega)]
  rw [w64 (i := 256 * (b : Int)) (by omega) (by omega), w64 (i := 65536 * (c : Int)) (by omega) (by omega), w64 (i := 16777216 * (d : Int)) (by omega) (by omega)]
  rw [w64 (i := (a : Int) + 256 * (b : Int)) (by omega) (by omega), w64 (i := (a : Int) + 256 * (b : Int) + 65536 * (c : Int)) (by omega) (by omega), w64 (by omega) (by omega)]
  omega

theorem RNext_tail (s : ByteArray) (hs : s.size ≤ 1099511627776) (hh : hdr (L s) = true) (x : Int) :
    Ev (fun k => lombardref07_Next.j1 k s x false) (if s.size < 8 then (S [], 0, 14)
    else if 4096 < numL (L s) then (S [], 0, 15)
    else if s.size < numL (L s) + 12 then (S [], 0, 14)
    else if numL ((L s).drop (8 + numL (L s))) = sumN (((L s).drop 8).take (numL (L s))) then (S (((L s).drop 8).take (numL (L s))), ((numL (L s) + 12 : Nat) : Int), 0)
    else (S [], 0, 15)) := by
  have hnl := numL_lt (L s)
  by_cases h1 : s.size < 8
  · rw [if_pos h1]
    refine Ev.step (f := fun _ => some (S [], 0, 14)) (fun k => ?_) (Ev.now _)
    rw [lombardref07_Next.j1, if_neg (by simp), if_pos (by omega), empty_S]
  · rw [if_neg h1]
    have hnum := RNum s (by omega)
    have e2 : wrap64 (8 + (numL (L s) : Int)) = ((8 + numL (L s) : Nat) : Int) := by rw [w64 (by omega) (by omega)]; omega
    have e3 : wrap64 ((numL (L s) : Int) + 12) = ((numL (L s) + 12 : Nat) : Int) := by rw [w64 (by omega) (by omega)]; omega
    have g0 : (0 : Int) < (s.size : Int) := by omega
    have g1 : (1 : Int) < (s.size : Int) := by omega
    have g2 : (2 : Int) < (s.size : Int) := by omega
    have g3 : (3 : Int) < (s.size : Int) := by omega
    have g8 : ¬ (s.size : Int) < 8 := by omega
    by_cases h2 : 4096 < numL (L s)
    · rw [if_pos h2]
      have g : (numL (L s) : Int) > 4096 := by omega
      refine Ev.step (f := fun _ => some (S [], 0, 15)) (fun k => ?_) (Ev.now _)
      rw [lombardref07_Next.j1, if_neg (by simp), if_neg g8, if_pos g0, if_pos g1, if_pos g2, if_pos g3, hnum, if_pos g, empty_S]
    · rw [if_neg h2]
      have g : ¬ (numL (L s) : Int) > 4096 := by omega
      by_cases h3 : s.size < numL (L s) + 12
      · rw [if_pos h3]
        have g' : (s.size : Int) < ((numL (L s) + 12 : Nat) : Int) := by omega
        refine Ev.step (f := fun _ => some (S [], 0, 14)) (fun k => ?_) (Ev.now _)
        rw [lombardref07_Next.j1, if_neg (by simp), if_neg g8, if_pos g0, if_pos g1, if_pos g2, if_pos g3, hnum, if_neg g, e3, if_pos g', empty_S]
      · rw [if_neg h3]
        have g' : ¬ (s.size : Int) < ((numL (L s) + 12 : Nat) : Int) := by omega
        have g4 : (8 : Int) ≤ ((8 + numL (L s) : Nat) : Int) := by omega
        have g5 : ((8 + numL (L s) : Nat) : Int) ≤ (s.size : Int) := by omega
        have g6 : (0 : Int) ≤ ((numL (L s) + 12 : Nat) : Int) := by omega
        have g7 : ((numL (L s) + 12 : Nat) : Int) ≤ (s.size : Int) := by omega
        have hx1 : L (s.extract 8 (8 + numL (L s))) = ((L s).drop 8).take (numL (L s)) := by
          rw [L_extract, List.drop_take, show 8 + numL (L s) - 8 = numL (L s) by omega]
        have hx2 : L (s.extract 0 (numL (L s) + 12)) = (L s).take (numL (L s) + 12) := by
          rw [L_extract, List.drop_zero]
        have hput := RPut_ev (s.extract 8 (8 + numL (L s))) (by rw [← L_len, hx1, List.length_take]; omega)
        have hps : putS (L (s.extract 8 (8 + numL (L s)))) = (S (putL (((L s).drop 8).take (numL (L s)))), 0) := by
          unfold putS
          rw [hx1, if_pos (by rw [List.length_take]; omega)]
        rw [hps] at hput
        have er := eq_S hx1
        have hpt := put_take (L s) (by rw [L_len]; omega) hh _ rfl (by rw [L_len]; omega)
        obtain ⟨K, hK⟩ := hput
        refine Ev.from K (fun m hm => ?_)
        have hk : lombardref07_Put.f m (s.extract 8 (8 + numL (L s))) = some (S (putL (((L s).drop 8).take (numL (L s)))), 0) := hK m hm
        rw [lombardref07_Next.j1, if_neg (by simp), if_neg g8, if_pos g0, if_pos g1, if_pos g2, if_pos g3, hnum, if_neg g, e3, if_neg g', e2, if_pos g4, if_pos g5, Int.toNat_natCast, hk, Option.bind_some, if_pos g6, if_pos g7, Int.toNat_natCast, toList_S, toList_L, hx2, empty_S, er]
        by_cases h4 : numL ((L s).drop (8 + numL (L s))) = sumN (((L s).drop 8).take (numL (L s)))
        · rw [if_pos h4, if_pos (hpt.2 h4)]
        · rw [if_neg h4, if_neg (fun h => h4 (hpt.1 h))]

theorem RNext_round (s : ByteArray) (i u1 u2 k : Nat) (hi : i < s.size) (hs : s.size ≤ 1099511627776) (h4 : 4 ≤ i) (h8 : i < 8) (hb1 : bt s (i : Int) = (u1 : Int)) (hb2 : bt s ((i - 4 : Nat) : Int) = (u2 : Int)) (l1 : u1 < 256) (l2 : u2 < 256) :
    lombardref07_Next.l0 (k + 1 + 1) s (i : Int) = if u1 + u2 = 255 then lombardref07_Next.l0 k s ((i + 1 : Nat) : Int) else some (S [], 0, 15) := by
  have e4 : wrap64 ((i : Int) - 4) = ((i - 4 : Nat) : Int) := by rw [w64 (by omega) (by omega)]; omega
  have e5 : wrap64 ((i : Int) + 1) = ((i + 1 : Nat) : Int) := by rw [w64 (by omega) (by omega)]; omega
  have e6 : wrap64 (wrap64 (u1 : Int) + wrap64 (u2 : Int)) = ((u1 + u2 : Nat) : Int) := by
    rw [w64 (i := (u1 : Int)) (by omega) (by omega), w64 (i := (u2 : Int)) (by omega) (by omega), w64 (by omega) (by omega)]; omega
  have g0 : (i : Int) < 8 := by omega
  have g1 : (0 : Int) ≤ (i : Int) := by omega
  have g2 : (i : Int) < (s.size : Int) := by omega
  have g3 : (0 : Int) ≤ ((i - 4 : Nat) : Int) := by omega
  have g4 : ((i - 4 : Nat) : Int) < (s.size : Int) := by omega
  rw [lombardref07_Next.l0, if_pos g0, decide_eq_true g2, lombardref07_Next.j1, if_pos rfl, if_pos g1, if_pos g2, e4, if_pos g3, if_pos g4, hb1, hb2, e6, e5, empty_S]
  by_cases h : u1 + u2 = 255
  · have g5 : ((u1 + u2 : Nat) : Int) = 255 := by omega
    rw [if_pos g5, if_pos h]
  · have g5 : ¬ ((u1 + u2 : Nat) : Int) = 255 := by omega
    rw [if_neg g5, if_neg h]
theorem RNext_end (s : ByteArray) (i k : Nat) (h : 8 ≤ i ∨ s.size ≤ i) :
    lombardref07_Next.l0 (k + 1) s (i : Int) = lombardref07_Next.j1 k s (i : Int) false := by
  rw [lombardref07_Next.l0]
  by_cases g : (i : Int) < 8
  · rw [if_pos g, decide_eq_false (by omega)]
  · rw [if_neg g]

theorem RNext_l0 (s : ByteArray) (hs : s.size ≤ 1099511627776) (out : ByteArray × Int × Int) (P : Prop) (hout : P → ∀ x : Int, Ev (fun k => lombardref07_Next.j1 k s x false) out) :
    ∀ (d i : Nat), i + d = 8 → 4 ≤ i → (hdrFrom (L s) d i = true → P) → Ev (fun k => lombardref07_Next.l0 k s (i : Int)) (if hdrFrom (L s) d i = true then out else (S [], 0, 15)) := by
  intro d
  induction d with
  | zero =>
    intro i h h4 hp
    rw [if_pos (by rfl)]
    exact Ev.step (fun k => RNext_end s i k (by omega)) (hout (hp rfl) _)
  | succ d ih =>
    intro i h h4
    unfold hdrFrom
    rw [L_len]
    intro hp
    by_cases hi : i < s.size
    · rw [if_pos hi] at hp ⊢
      have l1 : ((L s).getD i 0).toNat < 256 := ((L s).getD i 0).toNat_lt
      have l2 : ((L s).getD (i - 4) 0).toNat < 256 := ((L s).getD (i - 4) 0).toNat_lt
      have hr := fun k => RNext_round s i _ _ k hi hs h4 (by omega) (bt_getD s i hi) (bt_getD s (i - 4) (by omega)) l1 l2
      by_cases he : ((L s).getD i 0).toNat + ((L s).getD (i - 4) 0).toNat = 255
      · rw [decide_eq_true he, Bool.true_and] at hp ⊢
        have ih' := ih (i + 1) (by omega) (by omega) hp
        obtain ⟨K, hK⟩ := ih'
        refine ⟨K + 2, fun n hn => ?_⟩
        obtain ⟨m, rfl⟩ : ∃ m, n = m + 1 + 1 := ⟨n - 2, by omega⟩
        exact (hr m).trans ((if_pos he).trans (hK m (by omega)))
      · rw [decide_eq_false he, Bool.false_and, if_neg (by simp)]
        refine ⟨2, fun n hn => ?_⟩
        obtain ⟨m, rfl⟩ : ∃ m, n = m + 1 + 1 := ⟨n - 2, by omega⟩
        exact (hr m).trans (if_neg he)
    · rw [if_neg hi] at hp
      rw [if_neg hi, if_pos rfl]
      exact Ev.step (fun k => RNext_end s i k (by omega)) (hout (hp rfl) _)

theorem RNext_ev (s : ByteArray) (hs : s.size ≤ 1099511627776) : Ev (fun k => lombardref07_Next.f k s) (nextL (L s)) := by
  have h := RNext_l0 s hs _ (hdr (L s) = true) (RNext_tail s hs) 4 4 rfl (by omega) (fun h => h)
  unfold nextL hdr
  rw [L_len]
  exact h

end Go.Proofs.Ytejfdiiennnjjaa.Facts
namespace Go.Proofs.Ytejfdiiennnjjaa.Facts
open Go.RowKit Go.Proofs.Ytejfdiiennnjjaa.F Go.Proofs.YtejfdiiennnjjaaW.PrintWords Go.Proofs.YtejfdiiennnjjaaW.PrintLast Go.Proofs.YtejfdiiennnjjaaW.PrintMore
set_option linter.unusedVariables false

theorem nextL_ok (l : List UInt8) (h : (nextL l).2.2 = 0) : ∃ n : Nat, (nextL l).2.1 = (n : Int) ∧ 12 ≤ n ∧ n ≤ l.length := by
  revert h
  unfold nextL
  split
  · split
    · intro h; exact absurd h (by simp)
    · split
      · intro h; exact absurd h (by simp)
      · split
        · intro h; exact absurd h (by simp)
        · split
          · intro _; exact ⟨numL l + 12, rfl, by omega, by omega⟩
          · intro h; exact absurd h (by simp)
  · intro h; exact absurd h (by simp)
theorem nextL_no (l : List UInt8) (h : ¬ (nextL l).2.2 = 0) : (nextL l).1 = S [] ∧ (nextL l).2.1 = 0 ∧ ((nextL l).2.2 = 14 ∨ (nextL l).2.2 = 15) := by
  revert h
  unfold nextL
  split
  · split
    · intro _; exact ⟨rfl, rfl, .inl rfl⟩
    · split
      · intro _; exact ⟨rfl, rfl, .inr rfl⟩
      · split
        · intro _; exact ⟨rfl, rfl, .inl rfl⟩
        · split
          · intro h; exact absurd rfl h
          · intro _; exact ⟨rfl, rfl, .inr rfl⟩
  · intro _; exact ⟨rfl, rfl, .inr rfl⟩

/-- Records as far as they are whole, where the last one ends, and what is wrong there. -/
def readF : Nat → List UInt8 → List ByteArray × Nat × Int
  | 0, _ => ([], 0, 0)
  | f + 1, l => if l = [] then ([], 0, 0) else
      if (nextL l).2.2 = 0 then ((nextL l).1 :: (readF f (l.drop (nextL l).2.1.toNat)).1, (nextL l).2.1.toNat + (readF f (l.drop (nextL l).2.1.toNat)).2.1, (readF f (l.drop (nextL l).2.1.toNat)).2.2)
      else ([], 0, (nextL l).2.2)
def readL (l : List UInt8) : List ByteArray × Nat × Int := readF (l.length + 1) l
theorem readF_fuel : ∀ (f g : Nat) (l : List UInt8), l.length < f → l.length < g → readF f l = readF g l := by
  intro f
  induction f with
  | zero => intro g l h; omega
  | succ f ih =>
    intro g l h hg
    obtain ⟨g, rfl⟩ : ∃ m, g = m + 1 := ⟨g - 1, by omega⟩
    unfold readF
    by_cases h0 : l = []
    · rw [if_pos h0, if_pos h0]
    · rw [if_neg h0, if_neg h0]
      by_cases h1 : (nextL l).2.2 = 0
      · obtain ⟨n, hn, h12, hl⟩ := nextL_ok l h1
        rw [if_pos h1, if_pos h1, ih g _ (by rw [hn, List.length_drop]; omega) (by rw [hn, List.length_drop]; omega)]
      · rw [if_neg h1, if_neg h1]
theorem readL_eq (l : List UInt8) : readL l = if l = [] then ([], 0, 0) else
      if (nextL l).2.2 = 0 then ((nextL l).1 :: (readL (l.drop (nextL l).2.1.toNat)).1, (nextL l).2.1.toNat + (readL (l.drop (nextL l).2.1.toNat)).2.1, (readL (l.drop (nextL l).2.1.toNat)).2.2)
      else ([], 0, (nextL l).2.2) := by
  by_cases h0 : l = []
  · rw [if_pos h0]; unfold readL readF; rw [if_pos h0]
  · rw [if_neg h0]
    by_cases h1 : (nextL l).2.2 = 0
    · obtain ⟨n, hn, h12, hl⟩ := nextL_ok l h1
      rw [if_pos h1]
      have e : readF l.length (l.drop (nextL l).2.1.toNat) = readL (l.drop (nextL l).2.1.toNat) := readF_fuel _ _ _ (by rw [hn, List.length_drop]; omega) (by omega)
      rw [← e]
      conv => lhs; unfold readL readF
      rw [if_neg h0, if_pos h1]
    · rw [if_neg h1]
      unfold readL readF
      rw [if_neg h0, if_neg h1]

theorem Read_l0 (s : ByteArray) (hs : s.size ≤ 1099511627776) : ∀ (f at' : Nat) (acc : List ByteArray), s.size - at' < f → at' ≤ s.size → acc.length ≤ at' →
    Ev (fun k => frame_Read.l0 k s acc (at' : Int)) (acc ++ (readL ((L s).drop at')).1, ((at' + (readL ((L s).drop at')).2.1 : Nat) : Int), (readL ((L s).drop at')).2.2) := by
  intro f
  induction f with
  | zero => intro at' acc h; omega
  | succ f ih =>
    intro at' acc h hat hacc
    by_cases h0 : (at' : Int) < (s.size : Int)
    · have hne : ¬ (L s).drop at' = [] := fun e => by
        have := List.drop_eq_nil_iff.1 e
        rw [L_len] at this; omega
      have hx : L (s.extract at' s.size) = (L s).drop at' := by rw [L_extract, ← L_len, List.take_length]
      have hlen : ((L s).drop at').length = s.size - at' := by rw [List.length_drop, L_len]
      have hN := Next_ev (s.extract at' s.size) (by rw [← L_len, hx, hlen]; omega)
      rw [hx] at hN
      rw [readL_eq, if_neg hne]
      by_cases h1 : (nextL ((L s).drop at')).2.2 = 0
      · obtain ⟨n, hn, h12, hl⟩ := nextL_ok _ h1
        rw [hlen] at hl
        have ih' := ih (at' + n) (acc ++ [(nextL ((L s).drop at')).1]) (by omega) (by omega) (by rw [List.length_append]; simp; omega)
        have ea : wrap64 ((at' : Int) + (n : Int)) = ((at' + n : Nat) : Int) := by rw [w64 (by omega) (by omega)]; omega
        have g0 : (0 : Int) ≤ (at' : Int) := by omega
        have g1 : (at' : Int) ≤ (s.size : Int) := by omega
        have g2 : acc.length < 8796093022208 := by omega
        rw [if_pos h1, hn, Int.toNat_natCast]
        rw [List.append_assoc, List.singleton_append, Nat.add_assoc] at ih'
        rw [List.drop_drop]
        obtain ⟨K1, hK1⟩ := hN
        obtain ⟨K2, hK2⟩ := ih'
        refine Ev.from (max K1 K2) (fun m hm => ?_)
        have k1 : frame_Next.f m (s.extract at' s.size) = some (nextL ((L s).drop at')) := hK1 m (by omega)
        have k2 := hK2 m (by omega)
        rw [frame_Read.l0, if_pos h0, if_pos g0, if_pos g1, Int.toNat_natCast, k1, Option.bind_some, if_pos h1, if_pos g2, hn, ea]
        exact k2
      · obtain ⟨e1, e2, e3⟩ := nextL_no _ h1
        have g0 : (0 : Int) ≤ (at' : Int) := by omega
        have g1 : (at' : Int) ≤ (s.size : Int) := by omega
        rw [if_neg h1, List.append_nil, Nat.add_zero]
        obtain ⟨K1, hK1⟩ := hN
        refine Ev.from K1 (fun m hm => ?_)
        have k1 : frame_Next.f m (s.extract at' s.size) = some (nextL ((L s).drop at')) := hK1 m (by omega)
        rw [frame_Read.l0, if_pos h0, if_pos g0, if_pos g1, Int.toNat_natCast, k1, Option.bind_some, if_neg h1]
    · have hnil : (L s).drop at' = [] := List.drop_eq_nil_of_le (by rw [L_len]; omega)
      rw [readL_eq, if_pos hnil, List.append_nil, Nat.add_zero]
      refine Ev.from 0 (fun m _ => ?_)
      rw [frame_Read.l0, if_neg h0]

theorem Read_ev (s : ByteArray) (hs : s.size ≤ 1099511627776) : Ev (fun k => frame_Read.f k s) ((readL (L s)).1, ((readL (L s)).2.1 : Int), (readL (L s)).2.2) := by
  have := Read_l0 s hs (s.size + 1) 0 [] (by omega) (by omega) (by simp)
  rw [List.drop_zero, List.nil_append, Nat.zero_add] at this
  exact this

theorem RRead_l0 (s : ByteArray) (hs : s.size ≤ 1099511627776) : ∀ (f at' : Nat) (acc : List ByteArray), s.size - at' < f → at' ≤ s.size → acc.length ≤ at' →
    Ev (fun k => lombardref07_Read.l0 k s acc (at' : Int)) (acc ++ (readL ((L s).drop at')).1, ((at' + (readL ((L s).drop at')).2.1 : Nat) : Int), (readL ((L s).drop at')).2.2) := by
  intro f
  induction f with
  | zero => intro at' acc h; omega
  | succ f ih =>
    intro at' acc h hat hacc
    by_cases h0 : (at' : Int) < (s.size : Int)
    · have hne : ¬ (L s).drop at' = [] := fun e => by
        have := List.drop_eq_nil_iff.1 e
        rw [L_len] at this; omega
      have hx : L (s.extract at' s.size) = (L s).drop at' := by rw [L_extract, ← L_len, List.take_length]
      have hlen : ((L s).drop at').length = s.size - at' := by rw [List.length_drop, L_len]
      have hN := RNext_ev (s.extract at' s.size) (by rw [← L_len, hx, hlen]; omega)
      rw [hx] at hN
      rw [readL_eq, if_neg hne]
      by_cases h1 : (nextL ((L s).drop at')).2.2 = 0
      · obtain ⟨n, hn, h12, hl⟩ := nextL_ok _ h1
        rw [hlen] at hl
        have ih' := ih (at' + n) (acc ++ [(nextL ((L s).drop at')).1]) (by omega) (by omega) (by rw [List.length_append]; simp; omega)
        have ea : wrap64 ((at' : Int) + (n : Int)) = ((at' + n : Nat) : Int) := by rw [w64 (by omega) (by omega)]; omega
        have g0 : (0 : Int) ≤ (at' : Int) := by omega
        have g1 : (at' : Int) ≤ (s.size : Int) := by omega
        have g2 : acc.length < 8796093022208 := by omega
        rw [if_pos h1, hn, Int.toNat_natCast]
        rw [List.append_assoc, List.singleton_append, Nat.add_assoc] at ih'
        rw [List.drop_drop]
        obtain ⟨K1, hK1⟩ := hN
        obtain ⟨K2, hK2⟩ := ih'
        refine Ev.from (max K1 K2) (fun m hm => ?_)
        have k1 : lombardref07_Next.f m (s.extract at' s.size) = some (nextL ((L s).drop at')) := hK1 m (by omega)
        have k2 := hK2 m (by omega)
        rw [lombardref07_Read.l0, if_pos h0, if_pos g0, if_pos g1, Int.toNat_natCast, k1, Option.bind_some, if_pos h1, if_pos g2, hn, ea]
        exact k2
      · obtain ⟨e1, e2, e3⟩ := nextL_no _ h1
        have g0 : (0 : Int) ≤ (at' : Int) := by omega
        have g1 : (at' : Int) ≤ (s.size : Int) := by omega
        rw [if_neg h1, List.append_nil, Nat.add_zero]
        obtain ⟨K1, hK1⟩ := hN
        refine Ev.from K1 (fun m hm => ?_)
        have k1 : lombardref07_Next.f m (s.extract at' s.size) = some (nextL ((L s).drop at')) := hK1 m (by omega)
        rw [lombardref07_Read.l0, if_pos h0, if_pos g0, if_pos g1, Int.toNat_natCast, k1, Option.bind_some, if_neg h1]
    · have hnil : (L s).drop at' = [] := List.drop_eq_nil_of_le (by rw [L_len]; omega)
      rw [readL_eq, if_pos hnil, List.append_nil, Nat.add_zero]
      refine Ev.from 0 (fun m _ => ?_)
      rw [lombardref07_Read.l0, if_neg h0]

theorem RRead_ev (s : ByteArray) (hs : s.size ≤ 1099511627776) : Ev (fun k => lombardref07_Read.f k s) ((readL (L s)).1, ((readL (L s)).2.1 : Int), (readL (L s)).2.2) := by
  have := RRead_l0 s hs (s.size + 1) 0 [] (by omega) (by omega) (by simp)
  rw [List.drop_zero, List.nil_append, Nat.zero_add] at this
  exact this

theorem Texts_l0 (a b : List ByteArray) (hl : a.length = b.length) (ha : a.length ≤ 140737488351232) : ∀ (d i : Nat), i + d = a.length →
    Ev (fun k => lombardref07_Texts.l0 k a b (i : Int)) (decide (a.drop i = b.drop i)) := by
  intro d
  induction d with
  | zero =>
    intro i h
    rw [List.drop_eq_nil_of_le (by omega), List.drop_eq_nil_of_le (by omega), decide_eq_true rfl]
    refine Ev.from 0 (fun m _ => ?_)
    rw [lombardref07_Texts.l0, if_neg (by omega)]
  | succ d ih =>
    intro i h
    have h1 : i < a.length := by omega
    have h2 : i < b.length := by omega
    have ea : rdOf ByteArray.empty a (i : Int) = a[i] := by
      unfold rdOf
      rw [Int.toNat_natCast, List.getD_eq_getElem?_getD, List.getElem?_eq_getElem h1, Option.getD_some]
    have eb : rdOf ByteArray.empty b (i : Int) = b[i] := by
      unfold rdOf
      rw [Int.toNat_natCast, List.getD_eq_getElem?_getD, List.getElem?_eq_getElem h2, Option.getD_some]
    have hw : wrap64 ((i : Int) + 1) = ((i + 1 : Nat) : Int) := by rw [w64 (by omega) (by omega)]; omega
    have g0 : (i : Int) < (a.length : Int) := by omega
    have g1 : (0 : Int) ≤ (i : Int) := by omega
    have g2 : (i : Int) < (b.length : Int) := by omega
    have ih' := ih (i + 1) (by omega)
    rw [List.drop_eq_getElem_cons h1, List.drop_eq_getElem_cons h2]
    by_cases he : a[i] = b[i]
    · have e : (decide (a[i] :: a.drop (i + 1) = b[i] :: b.drop (i + 1))) = decide (a.drop (i + 1) = b.drop (i + 1)) := by
        rw [Bool.eq_iff_iff, decide_eq_true_iff, decide_eq_true_iff]
        exact ⟨fun h => (List.cons.inj h).2, fun h => by rw [he, h]⟩
      rw [e]
      refine Ev.step (fun k => ?_) ih'
      rw [lombardref07_Texts.l0, if_pos g0, if_pos g1, if_pos g2, ea, eb, he, if_pos rfl, hw]
    · have e : (decide (a[i] :: a.drop (i + 1) = b[i] :: b.drop (i + 1))) = false := by
        apply decide_eq_false; intro h; injection h with h _; exact he h
      rw [e]
      refine Ev.from 0 (fun m _ => ?_)
      rw [lombardref07_Texts.l0, if_pos g0, if_pos g1, if_pos g2, ea, eb, toList_L, toList_L, if_neg (fun h => he (L_ext h))]
theorem Texts_ev (a b : List ByteArray) (ha : a.length ≤ 140737488351232) : Ev (fun k => lombardref07_Texts.f k a b) (decide (a = b)) := by
  unfold lombardref07_Texts.f
  by_cases hl : a.length = b.length
  · have := Texts_l0 a b hl ha a.length 0 (by omega)
    refine Ev.congr (f := fun k => lombardref07_Texts.l0 k a b 0) (fun k => by rw [if_pos (by omega)]) ?_
    exact this
  · rw [decide_eq_false (fun h => hl (by rw [h]))]
    refine Ev.congr (f := fun _ => some false) (fun k => by rw [if_neg (by omega)]) (Ev.now _)

theorem awake_ev : Ev (fun k => lombardlaw07_awake.f k) true := by
  obtain ⟨K1, hK1⟩ := Put_ev (S [97, 98]) (by rw [S_size]; simp)
  obtain ⟨K2, hK2⟩ := Sum_ev (S [49, 50, 51, 52, 53, 54, 55, 56, 57]) (by rw [S_size]; simp)
  have e1 : putS (L (S [97, 98])) = (S (putL [97, 98]), 0) := by rw [L_S]; rfl
  have e2 : sumN (L (S [49, 50, 51, 52, 53, 54, 55, 56, 57])) = 3421780262 := by rw [L_S]; decide +kernel
  have e3 : (putL [97, 98]).length = 14 := by rw [putL_len]; rfl
  have e4 : (putL [97, 98]).take 10 = [2, 0, 0, 0, 253, 255, 255, 255, 97, 98] := by decide +kernel
  refine ⟨max K1 K2, fun k hk => ?_⟩
  have k1 : frame_Put.f k (⟨#[97, 98]⟩ : ByteArray) = some (S (putL [97, 98]), 0) := by rw [← e1]; exact hK1 k (by omega)
  have k2 : frame_Sum.f k (⟨#[49, 50, 51, 52, 53, 54, 55, 56, 57]⟩ : ByteArray) = some 3421780262 := by
    have := hK2 k (by omega)
    rw [e2] at this
    exact this
  have g14 : ((S (putL [97, 98])).size : Int) = 14 := by rw [S_size, e3]; rfl
  have g10 : (10 : Int) ≤ ((S (putL [97, 98])).size : Int) := by rw [g14]; omega
  show lombardlaw07_awake.f k = some true
  unfold lombardlaw07_awake.f
  rw [k1, Option.bind_some, if_pos rfl, k2, Option.bind_some, if_pos rfl, if_pos g14, if_pos (by omega), if_pos g10, toList_L, L_extract, L_S, List.drop_zero, e4]
  rfl
theorem awake_end : Ev (fun k => (lombardlaw07_awake.f k).bind fun t => some t) true := by
  obtain ⟨K, hK⟩ := awake_ev
  refine ⟨K, fun k hk => ?_⟩
  have := hK k hk
  show (lombardlaw07_awake.f k).bind _ = _
  rw [show lombardlaw07_awake.f k = some true from this]; rfl

theorem readF_len : ∀ (f : Nat) (l : List UInt8), (readF f l).1.length ≤ l.length := by
  intro f
  induction f with
  | zero => intro l; simp [readF]
  | succ f ih =>
    intro l
    unfold readF
    by_cases h0 : l = []
    · rw [if_pos h0]; simp
    · rw [if_neg h0]
      by_cases h1 : (nextL l).2.2 = 0
      · obtain ⟨n, hn, h12, hl⟩ := nextL_ok l h1
        rw [if_pos h1, hn, Int.toNat_natCast]
        have := ih (l.drop n)
        rw [List.length_drop] at this
        simp only [List.length_cons]
        omega
      · rw [if_neg h1]; simp

theorem FrameReads_ev (s : ByteArray) : Ev (fun k => lombardlaw07_FrameReads.f k s) true := by
  obtain ⟨KA, hA⟩ := awake_end
  by_cases h : (s.size : Int) > 9000
  · refine ⟨KA, fun k hk => ?_⟩
    show lombardlaw07_FrameReads.f k s = _
    unfold lombardlaw07_FrameReads.f
    rw [if_pos h]
    exact hA k hk
  · obtain ⟨K1, h1⟩ := Next_ev s (by omega)
    obtain ⟨K2, h2⟩ := RNext_ev s (by omega)
    obtain ⟨K3, h3⟩ := Read_ev s (by omega)
    obtain ⟨K4, h4⟩ := RRead_ev s (by omega)
    have hl := readF_len (s.size + 1) (L s)
    obtain ⟨K5, h5⟩ := Texts_ev (readL (L s)).1 (readL (L s)).1 (by unfold readL; rw [L_len] at hl ⊢; omega)
    refine ⟨max KA (max K1 (max K2 (max K3 (max K4 K5)))), fun k hk => ?_⟩
    have k1 : frame_Next.f k s = some (nextL (L s)) := h1 k (by omega)
    have k2 : lombardref07_Next.f k s = some (nextL (L s)) := h2 k (by omega)
    have k3 : frame_Read.f k s = some ((readL (L s)).1, ((readL (L s)).2.1 : Int), (readL (L s)).2.2) := h3 k (by omega)
    have k4 : lombardref07_Read.f k s = some ((readL (L s)).1, ((readL (L s)).2.1 : Int), (readL (L s)).2.2) := h4 k (by omega)
    have k5 : lombardref07_Texts.f k (readL (L s)).1 (readL (L s)).1 = some true := by
      have := h5 k (by omega)
      rw [decide_eq_true rfl] at this
      exact this
    show lombardlaw07_FrameReads.f k s = _
    unfold lombardlaw07_FrameReads.f
    rw [if_neg h, k1, Option.bind_some, k2, Option.bind_some, k3, Option.bind_some, k4, Option.bind_some, if_pos rfl, if_pos rfl, if_pos rfl, k5, Option.bind_some, if_pos rfl, if_pos rfl, if_pos rfl]
    exact hA k (by omega)

end Go.Proofs.Ytejfdiiennnjjaa.Facts
