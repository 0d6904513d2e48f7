/- Package journal's own texts: a number in seven bytes, a state in pieces, a new file's bytes. -/
import Derived.Test.YtejfdiiennnjjaaHx
namespace Go.Proofs.Ytejfdiiennnjjaa.J
open Go.RowKit Go.Proofs.Ytejfdiiennnjjaa.H Go.Proofs.Ytejfdiiennnjjaa.Facts Go.Proofs.YtejfdiiennnjjaaW.PrintWords Go.Proofs.YtejfdiiennnjjaaW.PrintLast Go.Proofs.YtejfdiiennnjjaaW.PrintMore Go.Proofs.Ytejfdiiennnjjaa
set_option linter.unusedVariables false

/-- A number in seven bytes, the lowest first. -/
def sevenL (n : Nat) : List UInt8 := [UInt8.ofNat (n % 256), UInt8.ofNat (n / 256 % 256), UInt8.ofNat (n / 65536 % 256), UInt8.ofNat (n / 16777216 % 256), UInt8.ofNat (n / 4294967296 % 256), UInt8.ofNat (n / 1099511627776 % 256), UInt8.ofNat (n / 281474976710656 % 256)]
theorem sevenL_len (n : Nat) : (sevenL n).length = 7 := rfl
theorem u64w (n : Int) (h0 : 0 ≤ n) (h1 : n < 18446744073709551616) : IntKind.u64.wrap n = n := by
  unfold IntKind.wrap
  simp [IntKind.bits, IntKind.signed]
  omega
theorem shift_of (i : Nat) (hi : i < 7) : IntKind.u64.wrap (wrap64 (8 * (i : Int))) = ((8 * i : Nat) : Int) := by
  rw [w64 (by omega) (by omega), u64w _ (by omega) (by omega)]
  push_cast
  rfl
theorem shr_at (n : Int) (i : Nat) (hi : i < 7) : shr .i64 n ((8 * i : Nat) : Int) = n / 2 ^ (8 * i) := by
  unfold shr
  rw [Int.toNat_natCast, Nat.min_eq_left (by show 8 * i ≤ 64; omega)]
theorem seven_step (k : Nat) (n : Int) (x : List Int) (hx : x.length = 7) (i : Nat) (hi : i < 7) :
    journal_seven.l0 (k + 1) n x 7 (i : Int) = journal_seven.l0 k n (x.set i (n / 2 ^ (8 * i) % 256)) 7 ((i + 1 : Nat) : Int) := by
  conv => lhs; unfold journal_seven.l0
  rw [if_pos (by omega), shift_of i hi, if_pos (by omega), if_pos (by omega), if_pos (by rw [hx]; omega), shr_at n i hi, Int.toNat_natCast, w64 (by omega) (by omega)]
  push_cast
  rfl
theorem seven_end (k : Nat) (n : Int) (x : List Int) : journal_seven.l0 (k + 1) n x 7 7 = some (strOfNums x) := by
  conv => lhs; unfold journal_seven.l0
  rw [if_neg (by decide)]
theorem seven_ev (n : Nat) (h : n < 9223372036854775808) : journal_seven.f 8 (n : Int) = some (S (sevenL n)) := by
  unfold journal_seven.f
  rw [if_pos (by omega)]
  show journal_seven.l0 8 (n : Int) [0, 0, 0, 0, 0, 0, 0] 7 ((0 : Nat) : Int) = _
  rw [seven_step 7 n _ rfl 0 (by omega), seven_step 6 n _ rfl 1 (by omega), seven_step 5 n _ rfl 2 (by omega), seven_step 4 n _ rfl 3 (by omega), seven_step 3 n _ rfl 4 (by omega), seven_step 2 n _ rfl 5 (by omega), seven_step 1 n _ rfl 6 (by omega)]
  show journal_seven.l0 1 (n : Int) _ 7 7 = _
  rw [seven_end]
  refine congrArg some (eq_S ?_)
  rw [L_nums]
  simp only [List.set, List.map_cons, List.map_nil, sevenL]
  have e0 : ((n : Int) / 2 ^ (8 * 0) % 256).toNat = n % 256 := by simp only [Nat.reduceMul, Int.reducePow]; omega
  have e1 : ((n : Int) / 2 ^ (8 * 1) % 256).toNat = n / 256 % 256 := by simp only [Nat.reduceMul, Int.reducePow]; omega
  have e2 : ((n : Int) / 2 ^ (8 * 2) % 256).toNat = n / 65536 % 256 := by simp only [Nat.reduceMul, Int.reducePow]; omega
  have e3 : ((n : Int) / 2 ^ (8 * 3) % 256).toNat = n / 16777216 % 256 := by simp only [Nat.reduceMul, Int.reducePow]; omega
  have e4 : ((n : Int) / 2 ^ (8 * 4) % 256).toNat = n / 4294967296 % 256 := by simp only [Nat.reduceMul, Int.reducePow]; omega
  have e5 : ((n : Int) / 2 ^ (8 * 5) % 256).toNat = n / 1099511627776 % 256 := by simp only [Nat.reduceMul, Int.reducePow]; omega
  have e6 : ((n : Int) / 2 ^ (8 * 6) % 256).toNat = n / 281474976710656 % 256 := by simp only [Nat.reduceMul, Int.reducePow]; omega
  rw [e0, e1, e2, e3, e4, e5, e6]

/-- A state in pieces of at most 4096 bytes. -/
def chunksF : Nat → ByteArray → List ByteArray
  | 0, _ => []
  | k + 1, x => if x.size = 0 then [] else x.extract 0 (min x.size 4096) :: chunksF k (x.extract (min x.size 4096) x.size)
def chunks (s : ByteArray) : List ByteArray := chunksF (s.size + 1) s
theorem toList_nil (x : ByteArray) : x.toList = [] ↔ x.size = 0 := by rw [toList_L, ← List.length_eq_zero_iff, L_len]
theorem mn_min (n : Nat) : mn (n : Int) 4096 = ((min n 4096 : Nat) : Int) := by unfold mn; split <;> omega
theorem pieces_l (k : Nat) : ∀ (s : ByteArray) (acc : List ByteArray), s.size < k → acc.length + s.size < 8796093022208 → journal_pieces.l0 k s acc = some (acc ++ chunksF k s) := by
  induction k with
  | zero => intro s acc h; omega
  | succ k ih =>
    intro s acc h ha
    unfold journal_pieces.l0 chunksF
    by_cases h0 : s.size = 0
    · rw [if_pos ((toList_nil s).2 h0), if_pos h0, List.append_nil]
    · rw [if_neg (fun e => h0 ((toList_nil s).1 e)), if_neg h0, mn_min, if_pos (by omega), if_pos (by omega), if_pos (by omega)]
      have hs : (s.extract (((min s.size 4096 : Nat) : Int)).toNat s.size).size = s.size - min s.size 4096 := by rw [ByteArray.size_extract, Int.toNat_natCast]; omega
      rw [ih _ _ (by rw [hs]; omega) (by rw [hs, List.length_append]; simp; omega), List.append_assoc]
      rfl
theorem pieces_ev (s : ByteArray) (h : s.size < 8796093022208) : journal_pieces.f (s.size + 1) s = some (chunks s) := by
  unfold journal_pieces.f
  rw [pieces_l _ _ _ (by omega) (by simpa using h)]
  rfl
set_option maxRecDepth 20000 in
theorem chunksF_all (k : Nat) : ∀ s : ByteArray, s.size < k → okAll (chunksF k s) = true ∧ (chunksF k s).length * 4096 ≤ s.size + 4095 ∧ laid (chunksF k s) = s.size + 12 * (chunksF k s).length := by
  induction k with
  | zero => intro s h; omega
  | succ k ih =>
    intro s h
    unfold chunksF
    by_cases h0 : s.size = 0
    · rw [if_pos h0]; refine ⟨rfl, by simp, by rw [h0]; rfl⟩
    · rw [if_neg h0]
      have hs : (s.extract (min s.size 4096) s.size).size = s.size - min s.size 4096 := by rw [ByteArray.size_extract]; omega
      have hp : (s.extract 0 (min s.size 4096)).size = min s.size 4096 := by rw [ByteArray.size_extract]; omega
      obtain ⟨h1, h2, h3⟩ := ih _ (show (s.extract (min s.size 4096) s.size).size < k by rw [hs]; omega)
      rw [hs] at h2 h3
      refine ⟨?_, ?_, ?_⟩
      · rw [okAll, List.all_cons, hp]
        rw [okAll] at h1
        rw [h1]
        simp; omega
      · rw [List.length_cons]
        by_cases hm : s.size ≤ 4096
        · have h4 : (s.extract (min s.size 4096) s.size).size = 0 := by rw [hs]; omega
          have h5 : chunksF k (s.extract (min s.size 4096) s.size) = [] := by
            cases k with
            | zero => rfl
            | succ k => unfold chunksF; rw [if_pos h4]
          rw [h5]; simp; omega
        · omega
      · rw [List.length_cons, laid, List.map_cons, List.sum_cons, hp]
        rw [laid] at h3
        omega
/-- A new file's first record, and its bytes. -/
def head (gen seq : Nat) (st : ByteArray) : ByteArray := S (sevenL gen ++ sevenL seq ++ sevenL (chunks st).length)
def lay (gen seq : Nat) (st : ByteArray) : ByteArray := S (flat (head gen seq st :: chunks st))
theorem S_append (a b : List UInt8) : S a ++ S b = S (a ++ b) := by
  refine eq_S ?_
  rw [L_append, L_S, L_S]
theorem head_size (gen seq : Nat) (st : ByteArray) : (head gen seq st).size = 21 := by unfold head; rw [S_size, List.length_append, List.length_append, sevenL_len, sevenL_len, sevenL_len]
theorem lay_size (gen seq : Nat) (st : ByteArray) : (lay gen seq st).size = 33 + st.size + 12 * (chunks st).length := by
  unfold lay
  rw [S_size, flat_len, laid, List.map_cons, List.sum_cons, head_size]
  have := (chunksF_all (st.size + 1) st (by omega)).2.2
  rw [laid] at this
  unfold chunks
  omega
theorem lay_bound (gen seq : Nat) (st : ByteArray) (h : st.size ≤ 1000000) : (lay gen seq st).size ≤ 33 + st.size + 12 * (st.size / 4096 + 1) := by
  rw [lay_size]
  have := (chunksF_all (st.size + 1) st (by omega)).2.1
  unfold chunks
  omega
theorem lay_ev (gen seq : Nat) (st : ByteArray) (hg : gen < 9223372036854775808) (hs : seq < 9223372036854775808) (h : st.size < 8796093022000) : ∃ k, journal_lay.f k (gen : Int) (seq : Int) st = some (lay gen seq st, 0) := by
  obtain ⟨c1, c2, c3⟩ := chunksF_all (st.size + 1) st (by omega)
  have hp : journal_pieces.f (st.size + 8) st = some (chunks st) := by
    have m := fun j => journal_pieces.mono st j
    exact m _ _ (m _ _ (m _ _ (m _ _ (m _ _ (m _ _ (m _ _ (pieces_ev st (by omega))))))))
  have h7 : ∀ n : Nat, n < 9223372036854775808 → journal_seven.f (st.size + 8) (n : Int) = some (S (sevenL n)) := fun n hn => by
    have m : ∀ j, journal_seven.f (8 + j) (n : Int) = some (S (sevenL n)) := fun j => by
      induction j with
      | zero => exact seven_ev n hn
      | succ j ih => exact journal_seven.mono (n : Int) (8 + j) _ ih
    rw [Nat.add_comm]
    exact m _
  refine ⟨st.size + 8, ?_⟩
  unfold journal_lay.f
  have hc : (chunks st).length * 4096 ≤ st.size + 4095 := by unfold chunks; omega
  rw [hp]
  simp only [Option.bind_some]
  rw [h7 gen hg]
  simp only [Option.bind_some]
  rw [h7 seq hs]
  simp only [Option.bind_some]
  rw [if_pos (by rw [S_size, S_size, sevenL_len, sevenL_len]; omega), h7 _ (by omega)]
  simp only [Option.bind_some]
  rw [if_pos (by rw [S_append, S_size, S_size, List.length_append, sevenL_len, sevenL_len, sevenL_len]; omega)]
  rw [if_pos (by simp; omega)]
  have hh : S (sevenL gen) ++ S (sevenL seq) ++ S (sevenL (chunks st).length) = head gen seq st := by rw [S_append, S_append]; rfl
  have hl : laid (head gen seq st :: chunks st) = 33 + st.size + 12 * (chunks st).length := by
    have := lay_size gen seq st
    unfold lay at this
    rw [S_size, flat_len] at this
    exact this
  have hk : okAll (head gen seq st :: chunks st) = true := by
    rw [okAll, List.all_cons, head_size]
    rw [okAll] at c1
    unfold chunks
    rw [c1]
    rfl
  rw [hh]
  show (frame_All.f (head gen seq st :: chunks st)).bind _ = _
  unfold frame_All.f
  rw [if_pos (by rw [hl]; omega)]
  unfold allS
  rw [if_pos hk]
  rfl
theorem lay_any (gen seq : Nat) (st : ByteArray) (hg : gen < 9223372036854775808) (hs : seq < 9223372036854775808) (h : st.size < 8796093022000) (w : World) :
    Calls Try.prog 69 #[.int .i64 (gen : Int), .int .i64 (seq : Int), .string st] w fun e w' => e = .returned (.tuple #[.string (lay gen seq st), .int .i64 0]) ∧ Below w.heap.size w w' := by
  obtain ⟨k, hk⟩ := lay_ev gen seq st hg hs h
  exact journal_lay.calls k _ _ _ _ _ w hk
end Go.Proofs.Ytejfdiiennnjjaa.J
