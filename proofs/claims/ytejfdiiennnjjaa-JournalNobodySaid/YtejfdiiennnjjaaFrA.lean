/- Records as bytes: what Put and Next, of the program and of the document, come to for every text. -/
import Derived.Test.YtejfdiiennnjjaaCrc
namespace Go.Proofs.Ytejfdiiennnjjaa.Facts
open Go.RowKit Go.Proofs.Ytejfdiiennnjjaa.F Go.Proofs.YtejfdiiennnjjaaW.PrintWords Go.Proofs.YtejfdiiennnjjaaW.PrintLast Go.Proofs.YtejfdiiennnjjaaW.PrintMore
set_option linter.unusedVariables false

theorem empty_S : (⟨#[]⟩ : ByteArray) = S [] := rfl
theorem sumN_lt (l : List UInt8) : sumN l < 4294967296 := (~~~ crc l).isLt
/-- A number in four bytes, the lowest first; and four bytes' number. -/
def fourL (n : Nat) : List UInt8 := [UInt8.ofNat (n % 256), UInt8.ofNat (n / 256 % 256), UInt8.ofNat (n / 65536 % 256), UInt8.ofNat (n / 16777216 % 256)]
def numL : List UInt8 → Nat
  | a :: b :: c :: d :: _ => a.toNat + 256 * b.toNat + 65536 * c.toNat + 16777216 * d.toNat
  | _ => 0
theorem fourL_len (n : Nat) : (fourL n).length = 4 := rfl
theorem numL_lt (l : List UInt8) : numL l < 4294967296 := by
  unfold numL
  split
  · rename_i a b c d _
    have := a.toNat_lt; have := b.toNat_lt; have := c.toNat_lt; have := d.toNat_lt
    omega
  · omega
theorem ofNat_toNat8 (n : Nat) (h : n < 256) : (UInt8.ofNat n).toNat = n := by rw [UInt8.toNat_ofNat']; omega
theorem ofNat_of (c : UInt8) (n : Nat) (h : n = c.toNat) : UInt8.ofNat n = c := by
  apply UInt8.toNat_inj.1; rw [h, ofNat_toNat8 _ c.toNat_lt]
theorem numL_fourL (n : Nat) (h : n < 4294967296) (r : List UInt8) : numL (fourL n ++ r) = n := by
  show numL (UInt8.ofNat (n % 256) :: UInt8.ofNat (n / 256 % 256) :: UInt8.ofNat (n / 65536 % 256) :: UInt8.ofNat (n / 16777216 % 256) :: r) = n
  unfold numL
  simp only
  rw [ofNat_toNat8 _ (by omega), ofNat_toNat8 _ (by omega), ofNat_toNat8 _ (by omega), ofNat_toNat8 _ (by omega)]
  omega
theorem fourL_numL (a b c d : UInt8) (r : List UInt8) : fourL (numL (a :: b :: c :: d :: r)) = [a, b, c, d] := by
  have ha := a.toNat_lt; have hb := b.toNat_lt; have hc := c.toNat_lt; have hd := d.toNat_lt
  unfold fourL numL
  simp only
  rw [ofNat_of a _ (by omega), ofNat_of b _ (by omega), ofNat_of c _ (by omega), ofNat_of d _ (by omega)]
theorem fourL_inj {m n : Nat} (hm : m < 4294967296) (hn : n < 4294967296) (h : fourL m = fourL n) : m = n := by
  have := numL_fourL m hm []
  rw [h, numL_fourL n hn []] at this
  exact this.symm

theorem four_eq (n : Nat) (h : n < 4294967296) : frame_four.f (n : Int) = some (S (fourL n)) := by
  unfold frame_four.f
  refine congrArg some (eq_S ?_)
  rw [L_nums]
  simp only [List.map_cons, List.map_nil, fourL]
  rw [show ((n : Int) % 256).toNat = n % 256 by omega, show ((n : Int) / 256 % 256).toNat = n / 256 % 256 by omega, show ((n : Int) / 65536 % 256).toNat = n / 65536 % 256 by omega, show ((n : Int) / 16777216 % 256).toNat = n / 16777216 % 256 by omega]
theorem rfour_eq (n : Nat) (h : n < 4294967296) : lombardref07_four.f (n : Int) = some (S (fourL n)) := by
  unfold lombardref07_four.f
  refine congrArg some (eq_S ?_)
  rw [L_nums, Int.tmod_eq_emod_of_nonneg (by omega), Int.tdiv_eq_ediv_of_nonneg (by omega), Int.tdiv_eq_ediv_of_nonneg (by omega), Int.tdiv_eq_ediv_of_nonneg (by omega)]
  simp only [List.map_cons, List.map_nil, fourL]
  rw [show ((n : Int) % 256 % 256).toNat = n % 256 by omega, show ((n : Int) / 256 % 4294967296 % 256).toNat = n / 256 % 256 by omega, show ((n : Int) / 65536 % 4294967296 % 256).toNat = n / 65536 % 256 by omega, show ((n : Int) / 16777216 % 4294967296 % 256).toNat = n / 16777216 % 256 by omega]

/-- A record as it is laid. -/
def putL (l : List UInt8) : List UInt8 := fourL l.length ++ (fourL (4294967295 - l.length) ++ (l ++ fourL (sumN l)))
theorem putL_len (l : List UInt8) : (putL l).length = l.length + 12 := by simp [putL, fourL_len]; omega
def putS (l : List UInt8) : ByteArray × Int := if l.length ≤ 4096 then (S (putL l), 0) else (S [], 2)

theorem not8 (b : Nat) (h : b < 256) : Go.bits .xor .u8 IntKind.u8.max (b : Int) = 255 - (b : Int) := by
  have e : ∀ x : BitVec 8, BitVec.ofInt 8 255 ^^^ x = ~~~ x := fun x => by
    rw [show BitVec.ofInt 8 255 = BitVec.allOnes 8 from rfl, BitVec.allOnes_xor]
  show IntKind.u8.wrap ((BitVec.ofInt 8 255 ^^^ BitVec.ofInt 8 (b : Int)).toNat : Int) = _
  rw [e, BitVec.toNat_not, BitVec.ofInt_natCast, BitVec.toNat_ofNat, IntKind.wrap_u8]
  omega
theorem notn (n : Nat) (h : n ≤ 4294967295) : Go.bits .xor .u32 IntKind.u32.max (n : Int) = ((4294967295 - n : Nat) : Int) := by
  have := notx_R (BitVec.ofNat 32 n)
  unfold RV at this
  rw [BitVec.toNat_not, BitVec.toNat_ofNat, Nat.mod_eq_of_lt (by omega)] at this
  rw [this]

theorem Put_ev (s : ByteArray) (hs : s.size ≤ 140737488351232) : Ev (fun k => frame_Put.f k s) (putS (L s)) := by
  unfold frame_Put.f putS
  rw [L_len]
  by_cases h : s.size ≤ 4096
  · rw [if_pos h]
    have e1 : (s.size : Int) % 4294967296 = (s.size : Int) := by omega
    have hn := notn s.size (by omega)
    have l1 : (S (fourL s.size)).size = 4 := by rw [S_size, fourL_len]
    have l2 : (S (fourL (4294967295 - s.size))).size = 4 := by rw [S_size, fourL_len]
    refine Ev.congr (f := fun k => (frame_Sum.f k s).bind fun t => (frame_four.f t).bind fun t2 => if ((S (fourL s.size) ++ S (fourL (4294967295 - s.size))) ++ s).size + t2.size ≤ 9223372036854775807 then some (((S (fourL s.size) ++ S (fourL (4294967295 - s.size))) ++ s) ++ t2, 0) else none) (fun k => ?_) (Ev.bind (Sum_ev s hs) ?_)
    · rw [if_neg (by omega), e1, hn, four_eq _ (by omega), four_eq _ (by omega)]
      simp only [Option.bind_some]
      rw [if_pos (by rw [l1, l2]; omega), if_pos (by rw [ByteArray.size_append, l1, l2]; omega)]
    · refine Ev.congr (f := fun _ => some (S (putL (L s)), 0)) (fun k => ?_) (Ev.now _)
      rw [four_eq _ (sumN_lt _)]
      simp only [Option.bind_some]
      rw [if_pos (by rw [ByteArray.size_append, ByteArray.size_append, l1, l2, S_size, fourL_len]; omega)]
      refine congrArg (fun x => some (x, (0 : Int))) (eq_S ?_)
      rw [L_append, L_append, L_append, L_S, L_S, L_S, putL, L_len, List.append_assoc, List.append_assoc]
  · rw [if_neg h]
    refine Ev.congr (f := fun _ => some (S [], 2)) (fun k => ?_) (Ev.now _)
    rw [if_pos (by omega), empty_S]

theorem RPut_ev (s : ByteArray) (hs : s.size ≤ 140737488351232) : Ev (fun k => lombardref07_Put.f k s) (putS (L s)) := by
  unfold lombardref07_Put.f putS
  rw [L_len]
  by_cases h : s.size ≤ 4096
  · rw [if_pos h]
    have e1 : (s.size : Int) % 4294967296 = (s.size : Int) := by omega
    have hn : (4294967295 : Int) - (s.size : Int) = ((4294967295 - s.size : Nat) : Int) := by omega
    have l1 : (S (fourL s.size)).size = 4 := by rw [S_size, fourL_len]
    have l2 : (S (fourL (4294967295 - s.size))).size = 4 := by rw [S_size, fourL_len]
    refine Ev.congr (f := fun k => (lombardref07_Sum.f k s).bind fun t => (lombardref07_four.f t).bind fun t2 => if ((S (fourL s.size) ++ S (fourL (4294967295 - s.size))) ++ s).size + t2.size ≤ 9223372036854775807 then some (((S (fourL s.size) ++ S (fourL (4294967295 - s.size))) ++ s) ++ t2, 0) else none) (fun k => ?_) (Ev.bind (RSum_ev s hs) ?_)
    · rw [if_neg (by omega), e1, hn, rfour_eq _ (by omega), rfour_eq _ (by omega)]
      simp only [Option.bind_some]
      rw [if_pos (by rw [l1, l2]; omega), if_pos (by rw [ByteArray.size_append, l1, l2]; omega)]
    · refine Ev.congr (f := fun _ => some (S (putL (L s)), 0)) (fun k => ?_) (Ev.now _)
      rw [rfour_eq _ (sumN_lt _)]
      simp only [Option.bind_some]
      rw [if_pos (by rw [ByteArray.size_append, ByteArray.size_append, l1, l2, S_size, fourL_len]; omega)]
      refine congrArg (fun x => some (x, (0 : Int))) (eq_S ?_)
      rw [L_append, L_append, L_append, L_S, L_S, L_S, putL, L_len, List.append_assoc, List.append_assoc]
  · rw [if_neg h]
    refine Ev.congr (f := fun _ => some (S [], 2)) (fun k => ?_) (Ev.now _)
    rw [if_pos (by omega), empty_S]

theorem four_cases (l : List UInt8) (h : 4 ≤ l.length) : ∃ a b c d r, l = a :: b :: c :: d :: r := by
  match l, h with
  | a :: b :: c :: d :: r, _ => exact ⟨a, b, c, d, r, rfl⟩
theorem bts (s : ByteArray) (a b c d : UInt8) (r : List UInt8) (h : L s = a :: b :: c :: d :: r) :
    bt s 0 = (a.toNat : Int) ∧ bt s 1 = (b.toNat : Int) ∧ bt s 2 = (c.toNat : Int) ∧ bt s 3 = (d.toNat : Int) := by
  refine ⟨?_, ?_, ?_, ?_⟩
  · exact (bt_L' s 0 a _ (by rw [h]; rfl)).2.1
  · exact (bt_L' s 1 b _ (by rw [h]; rfl)).2.1
  · exact (bt_L' s 2 c _ (by rw [h]; rfl)).2.1
  · exact (bt_L' s 3 d _ (by rw [h]; rfl)).2.1
theorem orj (x y : Int) (i : Nat) (hx0 : 0 ≤ x) (hx : x < 4294967296) (hm : x % 2 ^ i = 0) (hy0 : 0 ≤ y) (hy : y < 2 ^ i) (hy1 : y < 4294967296) : Go.bits .or .u32 x y = x + y :=
  bits_join .u32 32 (by decide) (fun n h0 h1 => by rw [IntKind.wrap_u32]; omega) i x y hx0 hm (by simpa using hx) hy0 hy (by simpa using hy1)
theorem or_comm (x y : Int) : Go.bits .or .u32 x y = Go.bits .or .u32 y x := by
  unfold Go.bits
  simp only
  rw [BitVec.or_comm]
theorem number_eq (s : ByteArray) (h : 4 ≤ s.size) : frame_number.f s = some (numL (L s) : Int) := by
  obtain ⟨a, b, c, d, r, hl⟩ := four_cases (L s) (by rw [L_len]; exact h)
  obtain ⟨e0, e1, e2, e3⟩ := bts s a b c d r hl
  have ha := a.toNat_lt; have hb := b.toNat_lt; have hc := c.toNat_lt; have hd := d.toNat_lt
  unfold frame_number.f
  rw [if_pos (by omega), if_pos (by omega), if_pos (by omega), if_pos (by omega), e0, e1, e2, e3, hl]
  refine congrArg some ?_
  rw [show (a.toNat : Int) % 4294967296 = (a.toNat : Int) by omega, show (b.toNat : Int) % 4294967296 * 256 % 4294967296 = (b.toNat : Int) * 256 by omega, show (c.toNat : Int) % 4294967296 * 65536 % 4294967296 = (c.toNat : Int) * 65536 by omega, show (d.toNat : Int) % 4294967296 * 16777216 % 4294967296 = (d.toNat : Int) * 16777216 by omega]
  rw [or_comm (a.toNat : Int), orj ((b.toNat : Int) * 256) _ 8 (by omega) (by omega) (by omega) (by omega) (by omega) (by omega)]
  rw [or_comm _ ((c.toNat : Int) * 65536), orj ((c.toNat : Int) * 65536) _ 16 (by omega) (by omega) (by omega) (by omega) (by omega) (by omega)]
  rw [or_comm _ ((d.toNat : Int) * 16777216), orj ((d.toNat : Int) * 16777216) _ 24 (by omega) (by omega) (by omega) (by omega) (by omega) (by omega)]
  unfold numL
  simp only
  omega

/-- Do the bytes from 4 to 7, as far as they are there, turn those from 0 to 3? -/
def hdrFrom (l : List UInt8) : Nat → Nat → Bool
  | 0, _ => true
  | d + 1, i => if i < l.length then decide ((l.getD i 0).toNat + (l.getD (i - 4) 0).toNat = 255) && hdrFrom l d (i + 1) else true
def hdr (l : List UInt8) : Bool := hdrFrom l 4 4

/-- The record that a text begins with, how many bytes it takes, and what is wrong. -/
def nextL (l : List UInt8) : ByteArray × Int × Int :=
  if hdr l = true then
    if l.length < 8 then (S [], 0, 14)
    else if 4096 < numL l then (S [], 0, 15)
    else if l.length < numL l + 12 then (S [], 0, 14)
    else if numL (l.drop (8 + numL l)) = sumN ((l.drop 8).take (numL l)) then (S ((l.drop 8).take (numL l)), ((numL l + 12 : Nat) : Int), 0)
    else (S [], 0, 15)
  else (S [], 0, 15)

theorem bt_getD (s : ByteArray) (i : Nat) (h : i < s.size) : bt s (i : Int) = (((L s).getD i 0).toNat : Int) := by
  rw [bt_L s i (by rw [L_len]; exact h), List.getD_eq_getElem?_getD, List.getElem?_eq_getElem (by rw [L_len]; exact h), Option.getD_some]

end Go.Proofs.Ytejfdiiennnjjaa.Facts
