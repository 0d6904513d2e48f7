/- Records read again, whole and torn; whether texts are few and short: what the journal's laws take of it. Package journal's own texts: a number in seven bytes, a state in pieces, a new file's bytes. A journal in memory; ready, State, Seq. journal.Format, on a disk that takes it. journal's Add, where the disk takes it. journal's Turn, where the disk takes it; Commands. A disk on which a journal lies: what Format, Add and Turn make of its two files. A journal on a disk with power: Format, Add, Turn, State, Seq, Commands, each by one contract. The chapter's example of package journal: it comes to true. -/
import Derived.Test.YtejfdiiennnjjaaZe
import Derived.Lib.Hide
import Derived.Test.YtejfdiiennnjjaaZb
import Derived.Test.YtejfdiiennnjjaaWMore
import Derived.RegionTactic
import Derived.Deep.RegionWith
import Derived.LoopTactic
namespace Go.Proofs.Ytejfdiiennnjjaa.Facts
open Go.RowKit Go.Proofs.Ytejfdiiennnjjaa.F Go.Proofs.YtejfdiiennnjjaaW.PrintWords Go.Proofs.YtejfdiiennnjjaaW.PrintLast Go.Proofs.YtejfdiiennnjjaaW.PrintMore Go.Proofs.Ytejfdiiennnjjaa
set_option linter.unusedVariables false

theorem hdr_put (n : Nat) (h : n < 4294967296) (x : List UInt8) : hdr (fourL n ++ (fourL (4294967295 - n) ++ x)) = true := by
  show hdr (UInt8.ofNat (n % 256) :: UInt8.ofNat (n / 256 % 256) :: UInt8.ofNat (n / 65536 % 256) :: UInt8.ofNat (n / 16777216 % 256) :: UInt8.ofNat ((4294967295 - n) % 256) :: UInt8.ofNat ((4294967295 - n) / 256 % 256) :: UInt8.ofNat ((4294967295 - n) / 65536 % 256) :: UInt8.ofNat ((4294967295 - n) / 16777216 % 256) :: x) = true
  rw [hdr_eight, ofNat_toNat8 _ (by omega), ofNat_toNat8 _ (by omega), ofNat_toNat8 _ (by omega), ofNat_toNat8 _ (by omega), ofNat_toNat8 _ (by omega), ofNat_toNat8 _ (by omega), ofNat_toNat8 _ (by omega), ofNat_toNat8 _ (by omega)]
  omega

theorem nextL_put (r rest : List UInt8) (h : r.length ≤ 4096) : nextL (putL r ++ rest) = (S r, ((r.length + 12 : Nat) : Int), 0) := by
  have hn : numL (putL r ++ rest) = r.length := by
    unfold putL; rw [List.append_assoc]; exact numL_fourL _ (by omega) _
  have hh : hdr (putL r ++ rest) = true := by
    unfold putL; rw [List.append_assoc, List.append_assoc]; exact hdr_put _ (by omega) _
  have hl : (putL r ++ rest).length = r.length + 12 + rest.length := by rw [List.length_append, putL_len]
  have h8 : (putL r ++ rest).drop 8 = r ++ (fourL (sumN r) ++ rest) := by
    unfold putL
    rw [List.append_assoc, List.append_assoc, List.append_assoc, ← List.append_assoc (fourL r.length)]
    exact List.drop_left' (by simp [fourL_len])
  have h9 : (putL r ++ rest).drop (8 + r.length) = fourL (sumN r) ++ rest := by
    rw [← List.drop_drop, h8, List.drop_left]
  unfold nextL
  rw [if_pos hh, if_neg (by omega), hn, if_neg (by omega), if_neg (by omega), h8, h9, List.take_left, numL_fourL _ (sumN_lt _), if_pos rfl]

theorem readL_flat (l : List ByteArray) (h : okAll l = true) : readL (flat l) = (l, (flat l).length, 0) := by
  induction l with
  | nil => rw [readL_eq, if_pos (by rfl)]; rfl
  | cons s l ih =>
    have hs : s.size ≤ 4096 ∧ okAll l = true := by
      unfold okAll at h ⊢; rw [List.all_cons, Bool.and_eq_true, decide_eq_true_eq] at h; exact h
    have hf : flat (s :: l) = putL (L s) ++ flat l := by simp [flat]
    have hlen := putL_len (L s)
    have hne : ¬ flat (s :: l) = [] := fun e => by
      rw [hf] at e
      have := List.append_eq_nil_iff.1 e
      rw [this.1] at hlen; simp at hlen
    have hN := nextL_put (L s) (flat l) (by rw [L_len]; exact hs.1)
    rw [← hf] at hN
    have hd : (flat (s :: l)).drop ((L s).length + 12) = flat l := by rw [hf, ← hlen, List.drop_left]
    rw [readL_eq, if_neg hne, hN, if_pos rfl, Int.toNat_natCast, hd, ih hs.2, S_L, hf, List.length_append, hlen]

def total (l : List ByteArray) : Nat := (l.map fun s => s.size).sum
theorem total_laid (l : List ByteArray) : laid l = total l + 12 * l.length := by
  induction l with
  | nil => rfl
  | cons s l ih => simp only [laid, total, List.map_cons, List.sum_cons, List.length_cons] at ih ⊢; omega
theorem total_snoc (l : List ByteArray) (i : Nat) (h : i < l.length) : total (l.take (i + 1)) = total (l.take i) + l[i].size := by
  rw [List.take_succ_eq_append_getElem h, total, total, List.map_append, List.sum_append, List.map_singleton, List.sum_singleton]

theorem Small_l0 (l : List ByteArray) (hs : ∀ s ∈ l, s.size ≤ 140737488351232) : ∀ (d i : Nat), i + d = 101 → i ≤ l.length → (i = 0 ∨ total (l.take (i - 1)) ≤ 20000) →
    ∃ b, Ev (fun k => lombardref07_Small.l0 k l (total (l.take i) : Int) (i : Int)) b ∧ (b = true → l.length ≤ 100 ∧ total l ≤ 20000) := by
  have hend : ∀ (i : Nat), i ≤ l.length → (l.length ≤ i ∨ 100 < i ∨ 20000 < total (l.take i)) → 
      ∃ b, Ev (fun k => lombardref07_Small.l0 k l (total (l.take i) : Int) (i : Int)) b ∧ (b = true → l.length ≤ 100 ∧ total l ≤ 20000) := by
    intro i hi hc
    refine ⟨decide (l.length ≤ 100) && decide (total (l.take i) ≤ 20000), ?_, ?_⟩
    · refine Ev.from 0 (fun m _ => ?_)
      have hx : (if (l.length : Int) ≤ 100 then some (decide ((total (l.take i) : Int) ≤ 20000)) else some false) = some (decide (l.length ≤ 100) && decide (total (l.take i) ≤ 20000)) := by
        by_cases h1 : l.length ≤ 100
        · rw [if_pos (by omega), decide_eq_true h1, Bool.true_and]
          congr 1
          rw [Bool.eq_iff_iff, decide_eq_true_iff, decide_eq_true_iff]; omega
        · rw [if_neg (by omega), decide_eq_false h1, Bool.false_and]
      rw [lombardref07_Small.l0]
      by_cases c1 : (i : Int) < (l.length : Int)
      · rw [if_pos c1]
        by_cases c2 : (i : Int) ≤ 100
        · rw [if_pos c2, if_neg (by omega), hx]
        · rw [if_neg c2, hx]
      · rw [if_neg c1, hx]
    · intro hb
      rw [Bool.and_eq_true, decide_eq_true_eq, decide_eq_true_eq] at hb
      refine ⟨hb.1, ?_⟩
      have : i = l.length := by omega
      rw [this, List.take_length] at hb
      exact hb.2
  intro d
  induction d with
  | zero => intro i h hi _; exact hend i hi (by omega)
  | succ d ih =>
    intro i h hi hp
    by_cases c1 : i < l.length
    · by_cases c2 : total (l.take i) ≤ 20000
      · obtain ⟨b, hb, hbb⟩ := ih (i + 1) (by omega) (by omega) (.inr (by simpa using c2))
        refine ⟨b, ?_, hbb⟩
        have hsz := hs l[i] (List.getElem_mem c1)
        have e : rdOf ByteArray.empty l (i : Int) = l[i] := by
          unfold rdOf
          rw [Int.toNat_natCast, List.getD_eq_getElem?_getD, List.getElem?_eq_getElem c1, Option.getD_some]
        have hw : wrap64 ((i : Int) + 1) = ((i + 1 : Nat) : Int) := by rw [w64 (by omega) (by omega)]; omega
        have hw2 : wrap64 ((total (l.take i) : Int) + (l[i].size : Int)) = (total (l.take (i + 1)) : Int) := by rw [w64 (by omega) (by omega), total_snoc l i c1]; omega
        refine Ev.step (fun k => ?_) hb
        rw [lombardref07_Small.l0, if_pos (by omega), if_pos (by omega), if_pos (by omega), if_pos (by omega), e, hw, hw2]
      · exact hend i hi (by omega)
    · exact hend i hi (by omega)
theorem Small_ev (l : List ByteArray) (hs : ∀ s ∈ l, s.size ≤ 140737488351232) : ∃ b, Ev (fun k => lombardref07_Small.f k l) b ∧ (b = true → laid l ≤ 21200) := by
  obtain ⟨b, h1, h2⟩ := Small_l0 l hs 101 0 rfl (by omega) (.inl rfl)
  refine ⟨b, h1, fun hb => ?_⟩
  have := h2 hb
  rw [total_laid]; omega

theorem getD_take (p : List UInt8) (k i : Nat) (h : i < (p.take k).length) : (p.take k).getD i 0 = p.getD i 0 := by
  rw [List.length_take] at h
  rw [List.getD_eq_getElem?_getD, List.getD_eq_getElem?_getD, List.getElem?_take_of_lt (by omega)]
theorem hdrFrom_take (p : List UInt8) (k : Nat) : ∀ (d i : Nat), hdrFrom p d i = true → hdrFrom (p.take k) d i = true := by
  intro d
  induction d with
  | zero => intro i h; rfl
  | succ d ih =>
    intro i h
    unfold hdrFrom at h ⊢
    by_cases hi : i < (p.take k).length
    · have hip : i < p.length := by rw [List.length_take] at hi; omega
      rw [if_pos hip, Bool.and_eq_true] at h
      rw [if_pos hi, Bool.and_eq_true, getD_take p k i hi, getD_take p k (i - 4) (by omega)]
      exact ⟨h.1, ih _ h.2⟩
    · rw [if_neg hi]

theorem nextL_torn (r rest : List UInt8) (hr : r.length ≤ 4096) (k : Nat) (hk : k < r.length + 12) : nextL ((putL r ++ rest).take k) = (S [], 0, 14) := by
  have hh : hdr (putL r ++ rest) = true := by
    unfold putL; rw [List.append_assoc, List.append_assoc]; exact hdr_put _ (by omega) _
  have hh' : hdr ((putL r ++ rest).take k) = true := hdrFrom_take _ k 4 4 hh
  have hlen : ((putL r ++ rest).take k).length = k := by rw [List.length_take, List.length_append, putL_len]; omega
  unfold nextL
  rw [if_pos hh', hlen]
  by_cases h8 : k < 8
  · rw [if_pos h8]
  · have hn : numL ((putL r ++ rest).take k) = r.length := by
      have e : numL (((putL r ++ rest).take k).take 4) = numL ((putL r ++ rest).take k) := numL_take _ (by rw [hlen]; omega)
      rw [← e, List.take_take, Nat.min_eq_left (by omega), numL_take _ (by rw [List.length_append, putL_len]; omega)]
      unfold putL; rw [List.append_assoc]; exact numL_fourL _ (by omega) _
    rw [if_neg h8, hn, if_neg (by omega), if_pos hk]

theorem readL_torn (l : List ByteArray) : okAll l = true → ∀ k, k ≤ laid l → ∃ n, n ≤ l.length ∧ laid (l.take n) ≤ k ∧ (∀ h : n < l.length, k < laid (l.take n) + l[n].size + 12) ∧
    readL ((flat l).take k) = (l.take n, laid (l.take n), if laid (l.take n) = k then 0 else 14) := by
  induction l with
  | nil =>
    intro _ k hk
    have hk0 : k = 0 := by simpa [laid] using hk
    subst hk0
    refine ⟨0, Nat.le_refl _, Nat.le_refl _, fun h => absurd h (by simp), ?_⟩
    rw [readL_eq, if_pos (by rfl)]; rfl
  | cons s l ih =>
    intro h k hk
    have hs : s.size ≤ 4096 ∧ okAll l = true := by
      unfold okAll at h ⊢; rw [List.all_cons, Bool.and_eq_true, decide_eq_true_eq] at h; exact h
    have hf : flat (s :: l) = putL (L s) ++ flat l := by simp [flat]
    have hlen : (putL (L s)).length = s.size + 12 := by rw [putL_len, L_len]
    have hlaid : laid (s :: l) = s.size + 12 + laid l := by simp [laid]
    by_cases hk2 : s.size + 12 ≤ k
    · obtain ⟨n, hn, h1, h2, h3⟩ := ih hs.2 (k - (s.size + 12)) (by omega)
      have ht : (flat (s :: l)).take k = putL (L s) ++ (flat l).take (k - (s.size + 12)) := by
        rw [hf, List.take_append, hlen, List.take_of_length_le (by omega)]
      have hne : ¬ (flat (s :: l)).take k = [] := fun e => by
        rw [ht] at e
        have := List.append_eq_nil_iff.1 e
        rw [this.1] at hlen; simp at hlen
      have hN := nextL_put (L s) ((flat l).take (k - (s.size + 12))) (by rw [L_len]; exact hs.1)
      have hd : ((flat (s :: l)).take k).drop (s.size + 12) = (flat l).take (k - (s.size + 12)) := by rw [ht, ← hlen, List.drop_left]
      have hl1 : laid ((s :: l).take (n + 1)) = s.size + 12 + laid (l.take n) := by rw [List.take_succ_cons]; simp [laid]
      refine ⟨n + 1, by simp; omega, by rw [hl1]; omega, fun hh => ?_, ?_⟩
      · have := h2 (by simpa using hh)
        rw [hl1]
        simp only [List.getElem_cons_succ]
        omega
      · rw [← ht] at hN
        rw [readL_eq, if_neg hne, hN, if_pos rfl, Int.toNat_natCast, L_len, hd, h3, S_L, hl1, List.take_succ_cons]
        by_cases he : laid (l.take n) = k - (s.size + 12)
        · rw [if_pos he, if_pos (by omega)]
        · rw [if_neg he, if_neg (by omega)]
    · refine ⟨0, by omega, by simp [laid], fun _ => ?_, ?_⟩
      · simp [laid]; omega
      · by_cases hk0 : k = 0
        · subst hk0
          rw [readL_eq, if_pos (by rfl)]; rfl
        · have hN := nextL_torn (L s) (flat l) (by rw [L_len]; exact hs.1) k (by rw [L_len]; omega)
          rw [← hf] at hN
          have hne : ¬ (flat (s :: l)).take k = [] := fun e => by
            have h5 : ((flat (s :: l)).take k).length = k := by rw [List.length_take, hf, List.length_append, hlen]; omega
            rw [e] at h5; simp at h5; omega
          rw [readL_eq, if_neg hne, hN, if_neg (by decide)]
          rw [if_neg (by simp [laid]; omega)]; rfl

end Go.Proofs.Ytejfdiiennnjjaa.Facts
namespace Go.Proofs.Ytejfdiiennnjjaa.J
open Go.RowKit Go.Proofs.Ytejfdiiennnjjaa.H Go.Proofs.Ytejfdiiennnjjaa.Facts Go.Proofs.YtejfdiiennnjjaaW.PrintWords Go.Proofs.YtejfdiiennnjjaaW.PrintLast Go.Proofs.YtejfdiiennnjjaaW.PrintMore Go.Proofs.Ytejfdiiennnjjaa
set_option linter.unusedVariables false

/-- A number in seven bytes, the lowest first. -/
def sevenL (n : Nat) : List UInt8 := [UInt8.ofNat (n % 256), UInt8.ofNat (n / 256 % 256), UInt8.ofNat (n / 65536 % 256), UInt8.ofNat (n / 16777216 % 256), UInt8.ofNat (n / 4294967296 % 256), UInt8.ofNat (n / 1099511627776 % 256), UInt8.ofNat (n / 281474976710656 % 256)]
theorem sevenL_len (n : Nat) : (sevenL n).length = 7 := rfl
theorem u64w (n : Int) (h0 : 0 ≤ n) (h1 : n < 18446744073709551616) : IntKind.u64.wrap n = n := by
  unfold IntKind.wrap
  simp [IntKind.bits, IntKind.signed]
  omega
theorem shift_of (i : Nat) (hi : i < 7) : IntKind.u64.wrap (wrap64 (8 * (i : Int))) = ((8 * i : Nat) : Int) := by
  rw [w64 (by omega) (by omega), u64w _ (by omega) (by omega)]
  push_cast
  rfl
theorem shr_at (n : Int) (i : Nat) (hi : i < 7) : shr .i64 n ((8 * i : Nat) : Int) = n / 2 ^ (8 * i) := by
  unfold shr
  rw [Int.toNat_natCast, Nat.min_eq_left (by show 8 * i ≤ 64; omega)]
theorem seven_step (k : Nat) (n : Int) (x : List Int) (hx : x.length = 7) (i : Nat) (hi : i < 7) :
    journal_seven.l0 (k + 1) n x 7 (i : Int) = journal_seven.l0 k n (x.set i (n / 2 ^ (8 * i) % 256)) 7 ((i + 1 : Nat) : Int) := by
  conv => lhs; unfold journal_seven.l0
  rw [if_pos (by omega), shift_of i hi, if_pos (by omega), if_pos (by omega), if_pos (by rw [hx]; omega), shr_at n i hi, Int.toNat_natCast, w64 (by omega) (by omega)]
  push_cast
  rfl
theorem seven_end (k : Nat) (n : Int) (x : List Int) : journal_seven.l0 (k + 1) n x 7 7 = some (strOfNums x) := by
  conv => lhs; unfold journal_seven.l0
  rw [if_neg (by decide)]
theorem seven_ev (n : Nat) (h : n < 9223372036854775808) : journal_seven.f 8 (n : Int) = some (S (sevenL n)) := by
  unfold journal_seven.f
  rw [if_pos (by omega)]
  show journal_seven.l0 8 (n : Int) [0, 0, 0, 0, 0, 0, 0] 7 ((0 : Nat) : Int) = _
  rw [seven_step 7 n _ rfl 0 (by omega), seven_step 6 n _ rfl 1 (by omega), seven_step 5 n _ rfl 2 (by omega), seven_step 4 n _ rfl 3 (by omega), seven_step 3 n _ rfl 4 (by omega), seven_step 2 n _ rfl 5 (by omega), seven_step 1 n _ rfl 6 (by omega)]
  show journal_seven.l0 1 (n : Int) _ 7 7 = _
  rw [seven_end]
  refine congrArg some (eq_S ?_)
  rw [L_nums]
  simp only [List.set, List.map_cons, List.map_nil, sevenL]
  have e0 : ((n : Int) / 2 ^ (8 * 0) % 256).toNat = n % 256 := by simp only [Nat.reduceMul, Int.reducePow]; omega
  have e1 : ((n : Int) / 2 ^ (8 * 1) % 256).toNat = n / 256 % 256 := by simp only [Nat.reduceMul, Int.reducePow]; omega
  have e2 : ((n : Int) / 2 ^ (8 * 2) % 256).toNat = n / 65536 % 256 := by simp only [Nat.reduceMul, Int.reducePow]; omega
  have e3 : ((n : Int) / 2 ^ (8 * 3) % 256).toNat = n / 16777216 % 256 := by simp only [Nat.reduceMul, Int.reducePow]; omega
  have e4 : ((n : Int) / 2 ^ (8 * 4) % 256).toNat = n / 4294967296 % 256 := by simp only [Nat.reduceMul, Int.reducePow]; omega
  have e5 : ((n : Int) / 2 ^ (8 * 5) % 256).toNat = n / 1099511627776 % 256 := by simp only [Nat.reduceMul, Int.reducePow]; omega
  have e6 : ((n : Int) / 2 ^ (8 * 6) % 256).toNat = n / 281474976710656 % 256 := by simp only [Nat.reduceMul, Int.reducePow]; omega
  rw [e0, e1, e2, e3, e4, e5, e6]

/-- A state in pieces of at most 4096 bytes. -/
def chunksF : Nat → ByteArray → List ByteArray
  | 0, _ => []
  | k + 1, x => if x.size = 0 then [] else x.extract 0 (min x.size 4096) :: chunksF k (x.extract (min x.size 4096) x.size)
def chunks (s : ByteArray) : List ByteArray := chunksF (s.size + 1) s
theorem toList_nil (x : ByteArray) : x.toList = [] ↔ x.size = 0 := by rw [toList_L, ← List.length_eq_zero_iff, L_len]
theorem mn_min (n : Nat) : mn (n : Int) 4096 = ((min n 4096 : Nat) : Int) := by unfold mn; split <;> omega
theorem pieces_l (k : Nat) : ∀ (s : ByteArray) (acc : List ByteArray), s.size < k → acc.length + s.size < 8796093022208 → journal_pieces.l0 k s acc = some (acc ++ chunksF k s) := by
  induction k with
  | zero => intro s acc h; omega
  | succ k ih =>
    intro s acc h ha
    unfold journal_pieces.l0 chunksF
    by_cases h0 : s.size = 0
    · rw [if_pos ((toList_nil s).2 h0), if_pos h0, List.append_nil]
    · rw [if_neg (fun e => h0 ((toList_nil s).1 e)), if_neg h0, mn_min, if_pos (by omega), if_pos (by omega), if_pos (by omega)]
      have hs : (s.extract (((min s.size 4096 : Nat) : Int)).toNat s.size).size = s.size - min s.size 4096 := by rw [ByteArray.size_extract, Int.toNat_natCast]; omega
      rw [ih _ _ (by rw [hs]; omega) (by rw [hs, List.length_append]; simp; omega), List.append_assoc]
      rfl
theorem pieces_ev (s : ByteArray) (h : s.size < 8796093022208) : journal_pieces.f (s.size + 1) s = some (chunks s) := by
  unfold journal_pieces.f
  rw [pieces_l _ _ _ (by omega) (by simpa using h)]
  rfl
set_option maxRecDepth 20000 in
theorem chunksF_all (k : Nat) : ∀ s : ByteArray, s.size < k → okAll (chunksF k s) = true ∧ (chunksF k s).length * 4096 ≤ s.size + 4095 ∧ laid (chunksF k s) = s.size + 12 * (chunksF k s).length := by
  induction k with
  | zero => intro s h; omega
  | succ k ih =>
    intro s h
    unfold chunksF
    by_cases h0 : s.size = 0
    · rw [if_pos h0]; refine ⟨rfl, by simp, by rw [h0]; rfl⟩
    · rw [if_neg h0]
      have hs : (s.extract (min s.size 4096) s.size).size = s.size - min s.size 4096 := by rw [ByteArray.size_extract]; omega
      have hp : (s.extract 0 (min s.size 4096)).size = min s.size 4096 := by rw [ByteArray.size_extract]; omega
      obtain ⟨h1, h2, h3⟩ := ih _ (show (s.extract (min s.size 4096) s.size).size < k by rw [hs]; omega)
      rw [hs] at h2 h3
      refine ⟨?_, ?_, ?_⟩
      · rw [okAll, List.all_cons, hp]
        rw [okAll] at h1
        rw [h1]
        simp; omega
      · rw [List.length_cons]
        by_cases hm : s.size ≤ 4096
        · have h4 : (s.extract (min s.size 4096) s.size).size = 0 := by rw [hs]; omega
          have h5 : chunksF k (s.extract (min s.size 4096) s.size) = [] := by
            cases k with
            | zero => rfl
            | succ k => unfold chunksF; rw [if_pos h4]
          rw [h5]; simp; omega
        · omega
      · rw [List.length_cons, laid, List.map_cons, List.sum_cons, hp]
        rw [laid] at h3
        omega
/-- A new file's first record, and its bytes. -/
def head (gen seq : Nat) (st : ByteArray) : ByteArray := S (sevenL gen ++ sevenL seq ++ sevenL (chunks st).length)
def lay (gen seq : Nat) (st : ByteArray) : ByteArray := S (flat (head gen seq st :: chunks st))
theorem S_append (a b : List UInt8) : S a ++ S b = S (a ++ b) := by
  refine eq_S ?_
  rw [L_append, L_S, L_S]
theorem head_size (gen seq : Nat) (st : ByteArray) : (head gen seq st).size = 21 := by unfold head; rw [S_size, List.length_append, List.length_append, sevenL_len, sevenL_len, sevenL_len]
theorem lay_size (gen seq : Nat) (st : ByteArray) : (lay gen seq st).size = 33 + st.size + 12 * (chunks st).length := by
  unfold lay
  rw [S_size, flat_len, laid, List.map_cons, List.sum_cons, head_size]
  have := (chunksF_all (st.size + 1) st (by omega)).2.2
  rw [laid] at this
  unfold chunks
  omega
theorem lay_bound (gen seq : Nat) (st : ByteArray) (h : st.size ≤ 1000000) : (lay gen seq st).size ≤ 33 + st.size + 12 * (st.size / 4096 + 1) := by
  rw [lay_size]
  have := (chunksF_all (st.size + 1) st (by omega)).2.1
  unfold chunks
  omega
theorem lay_ev (gen seq : Nat) (st : ByteArray) (hg : gen < 9223372036854775808) (hs : seq < 9223372036854775808) (h : st.size < 8796093022000) : ∃ k, journal_lay.f k (gen : Int) (seq : Int) st = some (lay gen seq st, 0) := by
  obtain ⟨c1, c2, c3⟩ := chunksF_all (st.size + 1) st (by omega)
  have hp : journal_pieces.f (st.size + 8) st = some (chunks st) := by
    have m := fun j => journal_pieces.mono st j
    exact m _ _ (m _ _ (m _ _ (m _ _ (m _ _ (m _ _ (m _ _ (pieces_ev st (by omega))))))))
  have h7 : ∀ n : Nat, n < 9223372036854775808 → journal_seven.f (st.size + 8) (n : Int) = some (S (sevenL n)) := fun n hn => by
    have m : ∀ j, journal_seven.f (8 + j) (n : Int) = some (S (sevenL n)) := fun j => by
      induction j with
      | zero => exact seven_ev n hn
      | succ j ih => exact journal_seven.mono (n : Int) (8 + j) _ ih
    rw [Nat.add_comm]
    exact m _
  refine ⟨st.size + 8, ?_⟩
  unfold journal_lay.f
  have hc : (chunks st).length * 4096 ≤ st.size + 4095 := by unfold chunks; omega
  rw [hp]
  simp only [Option.bind_some]
  rw [h7 gen hg]
  simp only [Option.bind_some]
  rw [h7 seq hs]
  simp only [Option.bind_some]
  rw [if_pos (by rw [S_size, S_size, sevenL_len, sevenL_len]; omega), h7 _ (by omega)]
  simp only [Option.bind_some]
  rw [if_pos (by rw [S_append, S_size, S_size, List.length_append, sevenL_len, sevenL_len, sevenL_len]; omega)]
  rw [if_pos (by simp; omega)]
  have hh : S (sevenL gen) ++ S (sevenL seq) ++ S (sevenL (chunks st).length) = head gen seq st := by rw [S_append, S_append]; rfl
  have hl : laid (head gen seq st :: chunks st) = 33 + st.size + 12 * (chunks st).length := by
    have := lay_size gen seq st
    unfold lay at this
    rw [S_size, flat_len] at this
    exact this
  have hk : okAll (head gen seq st :: chunks st) = true := by
    rw [okAll, List.all_cons, head_size]
    rw [okAll] at c1
    unfold chunks
    rw [c1]
    rfl
  rw [hh]
  show (frame_All.f (head gen seq st :: chunks st)).bind _ = _
  unfold frame_All.f
  rw [if_pos (by rw [hl]; omega)]
  unfold allS
  rw [if_pos hk]
  rfl
theorem lay_any (gen seq : Nat) (st : ByteArray) (hg : gen < 9223372036854775808) (hs : seq < 9223372036854775808) (h : st.size < 8796093022000) (w : World) :
    Calls Try.prog 69 #[.int .i64 (gen : Int), .int .i64 (seq : Int), .string st] w fun e w' => e = .returned (.tuple #[.string (lay gen seq st), .int .i64 0]) ∧ Below w.heap.size w w' := by
  obtain ⟨k, hk⟩ := lay_ev gen seq st hg hs h
  exact journal_lay.calls k _ _ _ _ _ w hk
end Go.Proofs.Ytejfdiiennnjjaa.J
namespace Go.Proofs.Ytejfdiiennnjjaa.J
open Go.RowKit Go.Proofs Go.Proofs.Ytejfdiiennnjjaa Go.Proofs.YtejfdiiennnjjaaW.PrintWords Go.Proofs.Ytejfdiiennnjjaa.D
set_option linter.unusedVariables false

/-- A journal: its disk's block; the file that counts; how many files there were; how many commands ahead; the state; the commands' slice; without power. -/
structure Jn where
  db : Nat
  file : Int
  gen : Int
  seq : Int
  state : ByteArray
  cv : Value
  dead : Bool
def Jn.cells (j : Jn) : Array Value := #[.pointer (some ⟨j.db, 0, none⟩), .int .i64 j.file, .int .i64 j.gen, .int .i64 j.seq, .string j.state, j.cv, .bool j.dead]
def Is (b : Nat) (j : Jn) (w : World) : Prop := w.heap[b]? = some (.cells j.cells 89 (0, 0))
theorem Is.get {b : Nat} {d : Jn} {w : World} (h : Is b d w) (k : Nat) (hk : k < 7) : w.cell? ⟨b, k, none⟩ = some (d.cells[k]'hk) := by
  unfold Is at h
  simp only [World.cell?, h]
  rw [Array.getElem?_eq_getElem hk]
  rfl
theorem Is.free {b : Nat} {d : Jn} {w : World} (h : Is b d w) (k : Nat) (hk : k < 7) : w.frozen? ⟨b, k, none⟩ = false := by
  unfold Is at h
  simp [World.frozen?, h]
theorem Is.put {b : Nat} {d d' : Jn} {w : World} (h : Is b d w) (k : Nat) (hk : k < 7) (v : Value) (e : d.cells.set k v hk = d'.cells) : Is b d' (w.setCell ⟨b, k, none⟩ v) := by
  unfold Is at h ⊢
  have hlt := lt_of_block h
  have h' : w.heap[b] = .cells d.cells 89 (0, 0) := by simpa [Array.getElem?_eq_getElem hlt] using h
  show (w.heap.modify b _)[b]? = _
  rw [Array.getElem?_eq_getElem (by simpa using hlt), Array.getElem_modify_self, h', ← e]
  show some (Obj.cells (d.cells.setIfInBounds k v) 89 (0, 0)) = _
  rw [Array.setIfInBounds, dif_pos (show k < d.cells.size from hk)]
theorem Is.c0 {b : Nat} {d : Jn} {w : World} (h : Is b d w) : w.cell? ⟨b, 0, none⟩ = some (.pointer (some ⟨d.db, 0, none⟩)) := h.get 0 (by decide)
theorem Is.f0 {b : Nat} {d : Jn} {w : World} (h : Is b d w) : w.frozen? ⟨b, 0, none⟩ = false := h.free 0 (by decide)
theorem Is.p0 {b : Nat} {d : Jn} {w : World} (h : Is b d w) (x : Nat) : Is b { d with db := x } (w.setCell ⟨b, 0, none⟩ (.pointer (some ⟨x, 0, none⟩))) := h.put 0 (by decide) _ rfl
theorem Is.c1 {b : Nat} {d : Jn} {w : World} (h : Is b d w) : w.cell? ⟨b, 1, none⟩ = some (.int .i64 d.file) := h.get 1 (by decide)
theorem Is.f1 {b : Nat} {d : Jn} {w : World} (h : Is b d w) : w.frozen? ⟨b, 1, none⟩ = false := h.free 1 (by decide)
theorem Is.p1 {b : Nat} {d : Jn} {w : World} (h : Is b d w) (x : Int) : Is b { d with file := x } (w.setCell ⟨b, 1, none⟩ (.int .i64 x)) := h.put 1 (by decide) _ rfl
theorem Is.c2 {b : Nat} {d : Jn} {w : World} (h : Is b d w) : w.cell? ⟨b, 2, none⟩ = some (.int .i64 d.gen) := h.get 2 (by decide)
theorem Is.f2 {b : Nat} {d : Jn} {w : World} (h : Is b d w) : w.frozen? ⟨b, 2, none⟩ = false := h.free 2 (by decide)
theorem Is.p2 {b : Nat} {d : Jn} {w : World} (h : Is b d w) (x : Int) : Is b { d with gen := x } (w.setCell ⟨b, 2, none⟩ (.int .i64 x)) := h.put 2 (by decide) _ rfl
theorem Is.c3 {b : Nat} {d : Jn} {w : World} (h : Is b d w) : w.cell? ⟨b, 3, none⟩ = some (.int .i64 d.seq) := h.get 3 (by decide)
theorem Is.f3 {b : Nat} {d : Jn} {w : World} (h : Is b d w) : w.frozen? ⟨b, 3, none⟩ = false := h.free 3 (by decide)
theorem Is.p3 {b : Nat} {d : Jn} {w : World} (h : Is b d w) (x : Int) : Is b { d with seq := x } (w.setCell ⟨b, 3, none⟩ (.int .i64 x)) := h.put 3 (by decide) _ rfl
theorem Is.c4 {b : Nat} {d : Jn} {w : World} (h : Is b d w) : w.cell? ⟨b, 4, none⟩ = some (.string d.state) := h.get 4 (by decide)
theorem Is.f4 {b : Nat} {d : Jn} {w : World} (h : Is b d w) : w.frozen? ⟨b, 4, none⟩ = false := h.free 4 (by decide)
theorem Is.p4 {b : Nat} {d : Jn} {w : World} (h : Is b d w) (x : ByteArray) : Is b { d with state := x } (w.setCell ⟨b, 4, none⟩ (.string x)) := h.put 4 (by decide) _ rfl
theorem Is.c5 {b : Nat} {d : Jn} {w : World} (h : Is b d w) : w.cell? ⟨b, 5, none⟩ = some (d.cv) := h.get 5 (by decide)
theorem Is.f5 {b : Nat} {d : Jn} {w : World} (h : Is b d w) : w.frozen? ⟨b, 5, none⟩ = false := h.free 5 (by decide)
theorem Is.p5 {b : Nat} {d : Jn} {w : World} (h : Is b d w) (x : Value) : Is b { d with cv := x } (w.setCell ⟨b, 5, none⟩ (x)) := h.put 5 (by decide) _ rfl
theorem Is.c6 {b : Nat} {d : Jn} {w : World} (h : Is b d w) : w.cell? ⟨b, 6, none⟩ = some (.bool d.dead) := h.get 6 (by decide)
theorem Is.f6 {b : Nat} {d : Jn} {w : World} (h : Is b d w) : w.frozen? ⟨b, 6, none⟩ = false := h.free 6 (by decide)
theorem Is.p6 {b : Nat} {d : Jn} {w : World} (h : Is b d w) (x : Bool) : Is b { d with dead := x } (w.setCell ⟨b, 6, none⟩ (.bool x)) := h.put 6 (by decide) _ rfl

/-- A journal with its commands, and its disk; what was made for it lies from block B on. -/
structure Jo (jb : Nat) (j : Jn) (l : List ByteArray) (d : Dk) (B : Nat) (w : World) : Prop where
  jn : Is jb j w
  dk : D.Is j.db d w
  cm : Kd.R Kd.string 9 w B (fun k => k ≠ jb ∧ k ≠ j.db) j.cv l
  ne : jb ≠ j.db
  bj : B ≤ jb
  bd : B ≤ j.db
section
variable {jb B : Nat} {j : Jn} {l : List ByteArray} {d d' : Dk} {w w' : World}
/-- The disk is turned. -/
theorem Jo.turn (h : Jo jb j l d B w) (T : D.Turn j.db d' w w') : Jo jb j l d' B w' :=
  ⟨(T.others jb (lt_of_block h.jn) h.ne).trans h.jn, T.is, Kd.R_step h.cm (fun k hk hl => T.others k hl hk.2), h.ne, h.bj, h.bd⟩
/-- Only new blocks are made. -/
theorem Jo.later (h : Jo jb j l d B w) (hb : Below w.heap.size w w') : Jo jb j l d B w' :=
  ⟨(hb.block _ (lt_of_block h.jn)).trans h.jn, (hb.block _ (lt_of_block h.dk)).trans h.dk, Kd.R_below h.cm hb, h.ne, h.bj, h.bd⟩
theorem Jo.drewN (h : Jo jb j l d B w) (n : Nat) : Jo jb j l d B (w.drewN n) := ⟨h.jn, h.dk, Kd.R_drewN h.cm n, h.ne, h.bj, h.bd⟩
/-- A cell of the journal's block is written. -/
theorem Jo.put {j' : Jn} {k : Nat} {v : Value} (h : Jo jb j l d B w) (r : Is jb j' (w.setCell ⟨jb, k, none⟩ v)) (e : j'.db = j.db) (hc : j'.cv = j.cv) : Jo jb j' l d B (w.setCell ⟨jb, k, none⟩ v) := by
  have g : ∀ c, c ≠ jb → (w.setCell ⟨jb, k, none⟩ v).heap[c]? = w.heap[c]? := fun c hc => Below.heap_setCell _ _ _ _ hc
  refine ⟨r, ?_, ?_, ?_, h.bj, ?_⟩
  · rw [e]; exact (g _ (fun x => h.ne x.symm)).trans h.dk
  · rw [e, hc]; exact Kd.R_step h.cm (fun k hk hl => g k hk.1)
  · rw [e]; exact h.ne
  · rw [e]; exact h.bd
end

def jrdy (j : Jn) : Int := if j.dead = true then 13 else 0
set_option maxRecDepth 100000 in
theorem ready_nil (w : World) : Calls Try.prog 68 #[.pointer none] w fun e w' => e = .returned (.int .i64 3) ∧ w' = w := by
  go_enter Try.func68, Try.ntmps68
  go_wp2
  go_ret
  exact ⟨rfl, rfl⟩
set_option maxRecDepth 100000 in
theorem ready_any (jb : Nat) (j : Jn) (w : World) (h : Is jb j w) : Calls Try.prog 68 #[.pointer (some ⟨jb, 0, none⟩)] w fun e w' => e = .returned (.int .i64 (jrdy j)) ∧ w' = w := by
  have c0 := h.c0
  have c6 := h.c6
  unfold jrdy
  cases hd : j.dead
  · rw [hd] at c6
    rw [if_neg (by simp)]
    go_enter Try.func68, Try.ntmps68
    go_wp2
    go_ret
    exact ⟨rfl, rfl⟩
  · rw [hd] at c6
    rw [if_pos rfl]
    go_enter Try.func68, Try.ntmps68
    go_wp2
    go_ret
    exact ⟨rfl, rfl⟩
set_option maxRecDepth 100000 in
theorem State_nil (w : World) : Calls Try.prog 46 #[.pointer none] w fun e w' => e = .returned (.string ⟨#[]⟩) ∧ w' = w := by
  go_enter Try.func46, Try.ntmps46
  go_wp2
  go_ret
  exact ⟨rfl, rfl⟩
set_option maxRecDepth 100000 in
theorem State_any (jb : Nat) (j : Jn) (w : World) (h : Is jb j w) : Calls Try.prog 46 #[.pointer (some ⟨jb, 0, none⟩)] w fun e w' => e = .returned (.string j.state) ∧ w' = w := by
  have c4 := h.c4
  go_enter Try.func46, Try.ntmps46
  go_wp2
  go_ret
  exact ⟨rfl, rfl⟩
set_option maxRecDepth 100000 in
theorem Seq_nil (w : World) : Calls Try.prog 48 #[.pointer none] w fun e w' => e = .returned (.int .i64 0) ∧ w' = w := by
  go_enter Try.func48, Try.ntmps48
  go_wp2
  go_ret
  exact ⟨rfl, rfl⟩
set_option maxRecDepth 100000 in
set_option maxHeartbeats 4000000 in
theorem Seq_any (jb : Nat) (j : Jn) (A : Option Addr) (n c : Nat) (w : World) (h : Is jb j w) (hc : j.cv = .slice A n c) (h0 : -1000000000000000000 ≤ j.seq) (h1 : j.seq ≤ 1000000000000000000) (hn : n ≤ 1000000000000000000) : Calls Try.prog 48 #[.pointer (some ⟨jb, 0, none⟩)] w fun e w' => e = .returned (.int .i64 (j.seq + n)) ∧ ∃ q, w' = w.drewN q := by
  have c3 := h.c3
  have c5 := h.c5
  rw [hc] at c5
  go_enter Try.func48, Try.ntmps48
  go_wp2_with fail
  go_region
  all_goals go_wp2
  all_goals go_ret
  all_goals exact ⟨rfl, _, rfl⟩
end Go.Proofs.Ytejfdiiennnjjaa.J
namespace Go.Proofs.Ytejfdiiennnjjaa.J
open Go.RowKit Go.Proofs Go.Proofs.Ytejfdiiennnjjaa Go.Proofs.YtejfdiiennnjjaaW.PrintWords Go.Proofs.Ytejfdiiennnjjaa.D
set_option linter.unusedVariables false

/-- The disk behind so many of the two cuts. -/
def cuts (d : Dk) : Nat → Dk
  | 0 => d
  | 1 => cutD d 0 0
  | _ => cutD (cutD d 0 0) 1 0
def fmtD (d : Dk) (st : ByteArray) : Dk := synD (appD (cuts d 2) 0 (lay 1 0 st)) 0
def fmtJ (b : Nat) (st : ByteArray) : Jn := ⟨b, 0, 1, 0, st, .slice none 0 0, false⟩
set_option maxRecDepth 100000 in
theorem Format_nil (st : ByteArray) (w : World) : Calls Try.prog 51 #[.pointer none, .string st] w fun e w' => e = .returned (.tuple #[.pointer none, .int .i64 3]) ∧ Below w.heap.size w w' := by
  go_enter Try.func51, Try.ntmps51
  go_wp2_with fail
  go_loopw [12] (fun i wr => i = .int .i64 0 ∧ wr = w) (fun i _ => (2 - intOf i).toNat)
  case atStart => exact ⟨rfl, rfl⟩
  case round =>
    obtain ⟨rfl, rfl⟩ := hrel
    go_wp2_with fail
    refine (D.Cut_nil 0 0 _).mono ?_; rintro e w1 ⟨rfl, rfl⟩
    go_wp2_with fail
    go_ret2
    exact ⟨rfl, Below.refl _ _⟩
set_option maxRecDepth 100000 in
set_option maxHeartbeats 4000000 in
theorem Format_ok (b : Nat) (d : Dk) (st : ByteArray) (w : World) (h : D.Is b d w) (hf : d.Fits) (hs : st.size ≤ 1000000)
    (c0 : cutN d 0 0 = 0) (c1 : cutN (cutD d 0 0) 1 0 = 0) (a0 : appN (cuts d 2) 0 (lay 1 0 st) = 0) (y0 : synN (appD (cuts d 2) 0 (lay 1 0 st)) 0 = 0) :
    Calls Try.prog 51 #[.pointer (some ⟨b, 0, none⟩), .string st] w fun e w' => ∃ jb, e = .returned (.tuple #[.pointer (some ⟨jb, 0, none⟩), .int .i64 0]) ∧ Jo jb (fmtJ b st) [] (fmtD d st) b w' ∧ D.Turn b (fmtD d st) w w' ∧ w.heap.size ≤ jb := by
  have hb := lt_of_block h
  go_enter Try.func51, Try.ntmps51
  go_wp2_with fail
  go_loopw [12] (fun i wr => ∃ n : Int, 0 ≤ n ∧ n ≤ 2 ∧ i = .int .i64 n ∧ D.Turn b (cuts d n.toNat) w wr) (fun i _ => (2 - intOf i).toNat)
  case atStart => exact ⟨0, by omega, by omega, rfl, D.Turn.refl h⟩
  case round =>
    obtain ⟨n, hn0, hn2, rfl, T⟩ := hrel
    obtain rfl | rfl | rfl : n = 0 ∨ n = 1 ∨ n = 2 := by omega
    · replace T : D.Turn b d w wr := T
      have C := D.Cut_any b d 0 0 wr T.is hf
      rw [c0] at C
      go_wp2_with fail
      refine C.mono ?_; rintro e w1 ⟨rfl, T1⟩
      have T2 := T.trans T1
      clear T1 T C
      go_wp2_with fail
      go_roundw
      case rel => exact ⟨1, by omega, by omega, rfl, T2⟩
      case measure => simp [intOf]
    · replace T : D.Turn b (cutD d 0 0) w wr := T
      have C := D.Cut_any b _ 1 0 wr T.is (cutD_fits hf 0 0)
      rw [c1] at C
      go_wp2_with fail
      refine C.mono ?_; rintro e w1 ⟨rfl, T1⟩
      have T2 := T.trans T1
      clear T1 T C
      go_wp2_with fail
      go_roundw
      case rel => exact ⟨2, by omega, by omega, rfl, T2⟩
      case measure => simp [intOf]
    · replace T : D.Turn b (cuts d 2) w wr := T
      have hf2 : (cuts d 2).Fits := cutD_fits (cutD_fits hf 0 0) 1 0
      go_wp2_with fail
      refine (lay_any 1 0 st (by omega) (by omega) (by omega) _).mono ?_; rintro e w1 ⟨rfl, B1⟩
      have T1 : D.Turn b (cuts d 2) w w1 := ⟨(B1.block _ (lt_of_block T.is)).trans T.is, fun c hc hne => (B1.block c (Nat.lt_of_lt_of_le hc T.size)).trans (T.others c hc hne), Nat.le_trans T.size B1.size, fun X hX => (T.below X hX).trans (B1.mono (Nat.le_of_lt (Nat.lt_of_le_of_lt hX (lt_of_block T.is))))⟩
      clear B1 T
      have A := D.Append_any b (cuts d 2) 0 (lay 1 0 st) w1 T1.is hf2
      rw [a0] at A
      go_wp2_with fail
      refine A.mono ?_; rintro e w2 ⟨rfl, T2⟩
      have T3 := T1.trans T2
      clear T1 T2 A
      have Y := D.Sync_any b (appD (cuts d 2) 0 (lay 1 0 st)) 0 w2 T3.is (appD_fits hf2 0 _)
      rw [y0] at Y
      go_wp2_with fail
      refine Y.mono ?_; rintro e w3 ⟨rfl, T4⟩
      have T5 := T3.trans T4
      clear T3 T4 Y
      go_wp2_with fail
      go_ret2
      have hj := T5.size
      exact ⟨_, rfl, ⟨heap_alloc_new _ _, (T5.alloc _).is, Kd.R_nil _ _ _ _ _, by show _ ≠ b; omega, by omega, Nat.le_refl _⟩, T5.alloc _, T5.size⟩
end Go.Proofs.Ytejfdiiennnjjaa.J
namespace Go.Proofs.Ytejfdiiennnjjaa.J
open Go.RowKit Go.Proofs Go.Proofs.Ytejfdiiennnjjaa Go.Proofs.YtejfdiiennnjjaaW.PrintWords Go.Proofs.YtejfdiiennnjjaaW.PrintLast Go.Proofs.YtejfdiiennnjjaaW.PrintMore Go.Proofs.Ytejfdiiennnjjaa.D
set_option linter.unusedVariables false

theorem info9 : (Try.prog.info? 9).map (fun i => (i.zero, i.size, i.bytes)) = some (some (.string ⟨#[]⟩), 1, 16) := by kernel_rfl
/-- A record as it is laid. -/
def rec1 (cmd : ByteArray) : ByteArray := Facts.S (Facts.putL (Facts.L cmd))
theorem rec1_size (cmd : ByteArray) : (rec1 cmd).size = cmd.size + 12 := by unfold rec1; rw [Facts.S_size, Facts.putL_len, Facts.L_len]
theorem Put_rec (s : ByteArray) (hs : s.size ≤ 4096) (w : World) : Calls Try.prog 21 #[.string s] w fun e w' => e = .returned (.tuple #[.string (rec1 s), .int .i64 0]) ∧ Below w.heap.size w w' := Facts.Put_yes s hs w
/-- The commands grow by one. -/
theorem Jo.grow {jb B : Nat} {j : Jn} {l l' : List ByteArray} {d : Dk} {W w1 : World} {v1 : Value} (h : Jo jb j l d B W) (hg : W.grownBy w1 j.cv.ownBlock) (ho : Kd.R Kd.string 9 w1 B (fun k => k ≠ jb ∧ k ≠ j.db) v1 l') :
    Is jb j w1 ∧ Jo jb { j with cv := v1 } l' d B (w1.setCell ⟨jb, 5, none⟩ v1) := by
  have hne : ∀ k, (k = jb ∨ k = j.db) → some k ≠ j.cv.ownBlock := fun k hk e => by
    have := h.cm.1 k e.symm
    rcases hk with rfl | rfl
    · exact this.1 rfl
    · exact this.2 rfl
  have i1 : Is jb j w1 := (hg.block jb (lt_of_block h.jn) (hne _ (Or.inl rfl))).trans h.jn
  have d1 : D.Is j.db d w1 := (hg.block j.db (lt_of_block h.dk) (hne _ (Or.inr rfl))).trans h.dk
  have g : ∀ c, c ≠ jb → (w1.setCell ⟨jb, 5, none⟩ v1).heap[c]? = w1.heap[c]? := fun c hc => Below.heap_setCell _ _ _ _ hc
  exact ⟨i1, i1.p5 v1, (g _ (fun x => h.ne x.symm)).trans d1, Kd.R_step ho (fun k hk _ => g k hk.1), h.ne, h.bj, h.bd⟩
theorem turn_undrew {b : Nat} {d : Dk} {w w' : World} (T : D.Turn b d w.drew w') : D.Turn b d w w' := ⟨T.is, T.others, T.size, fun B hB => ⟨(T.below B hB).os, (T.below B hB).tape, (T.below B hB).output, (T.below B hB).size, (T.below B hB).block⟩⟩
set_option maxRecDepth 100000 in
set_option maxHeartbeats 8000000 in
theorem Add_ok (jb B : Nat) (j : Jn) (l : List ByteArray) (d : Dk) (cmd : ByteArray) (w : World) (h : Jo jb j l d B w) (hf : d.Fits) (hj : j.dead = false) (hs : cmd.size ≤ 4096) (hl : l.length ≤ 1000000000)
    (a0 : appN d j.file (rec1 cmd) = 0) (y0 : synN (appD d j.file (rec1 cmd)) j.file = 0) :
    Calls Try.prog 44 #[.pointer (some ⟨jb, 0, none⟩), .string cmd] w fun e w' => e = .returned (.int .i64 0) ∧ ∃ cv', Jo jb { j with cv := cv' } (l ++ [cmd]) (synD (appD d j.file (rec1 cmd)) j.file) B w' ∧ Below B w w' := by
  have R := ready_any jb j w h.jn
  unfold jrdy at R
  rw [hj, if_neg (by simp)] at R
  go_enter Try.func44, Try.ntmps44
  go_wp2_with fail
  refine R.mono ?_; rintro e w1 ⟨rfl, rfl⟩
  clear R
  go_wp2_with fail
  refine (Put_rec cmd hs _).mono ?_; rintro e w2 ⟨rfl, b2⟩
  have h2 := h.later b2
  have B2 : Below B w1 w2 := b2.mono (by have := lt_of_block h.jn; have := h.bj; omega)
  clear b2 h
  have c0 := h2.jn.c0
  have c1 := h2.jn.c1
  go_wp2_with fail
  go_region_with (go_at_call 32; refine (D.Append_any j.db d j.file (rec1 cmd) _ (show D.Is j.db d w2.drew from h2.dk) hf).mono ?_; rintro e w3 ⟨rfl, T⟩; rw [a0])
  all_goals
    have h3 := h2.turn (turn_undrew T)
    have B3 := B2.trans ((turn_undrew T).below B h2.bd)
    clear T c0 c1 h2 B2
    have c0 := h3.jn.c0
    have c1 := h3.jn.c1
    go_wp2_with fail
    go_region_with (go_at_call 36; refine (D.Sync_any j.db _ j.file _ (show D.Is j.db _ w3.drew from h3.dk) (appD_fits hf _ _)).mono ?_; rintro e w4 ⟨rfl, T⟩; rw [y0])
  all_goals
    have h4 := h3.turn (turn_undrew T)
    have B4 := B3.trans ((turn_undrew T).below B h3.bd)
    clear T c0 c1 h3 B3
    have c5 := h4.jn.c5
    have hlj := lt_of_block h4.jn
    have hld := lt_of_block h4.dk
    go_wp2_with (first
      | ((with_reducible refine gate_builtin (b := .append) (xs := #[.tmp 56, .tmp 58]) rfl ?_); at_builtin
         refine Kd.R_append Kd.string (w0 := w4) B rfl (.tmp 56) (.tmp 58) 32 9 (.string ⟨#[]⟩) 16 rfl Try.underlying32 info9 rfl (by decide) (by omega) j.cv l cmd [.string cmd] (fun k => k ≠ jb ∧ k ≠ j.db) (fun _ => False) rfl rfl ?aP (fun _ hk => hk.elim) ?aF ?aO ?aB ?aS ?aL ?_
         (case aP => exact rfl)
         (case aB => exact Below.refl _ _)
         (case aF => exact (fun k hk => ⟨by omega, by omega⟩))
         (case aO => exact h4.cm)
         (case aS => have := h4.bj; omega)
         (case aL => omega)
         intro v1 w5 ho hb hg hat
         obtain ⟨A1, cp1, rfl⟩ := Kd.R_slice ho
         obtain ⟨i5, J5⟩ := h4.grow hg ho
         rw [show (l ++ [cmd]).length = l.length + 1 by simp] at J5
         have f5 := i5.f5
         have c5' := i5.c5
         have B5 := B4.trans hb
         clear hb hg hat ho))
    go_ret
    exact ⟨rfl, _, J5, B5.setCell h4.bj _⟩
end Go.Proofs.Ytejfdiiennnjjaa.J
namespace Go.Proofs.Ytejfdiiennnjjaa.J
open Go.RowKit Go.Proofs Go.Proofs.Ytejfdiiennnjjaa Go.Proofs.YtejfdiiennnjjaaW.PrintWords Go.Proofs.YtejfdiiennnjjaaW.PrintLast Go.Proofs.YtejfdiiennnjjaaW.PrintMore Go.Proofs.Ytejfdiiennnjjaa.D
set_option linter.unusedVariables false

set_option maxRecDepth 100000 in
theorem Commands_nil (w : World) : Calls Try.prog 47 #[.pointer none] w fun e w' => e = .returned (.slice none 0 0) ∧ w' = w := by
  go_enter Try.func47, Try.ntmps47
  go_wp2
  go_ret
  exact ⟨rfl, rfl⟩
set_option maxRecDepth 100000 in
set_option maxHeartbeats 4000000 in
theorem Commands_any (jb B : Nat) (j : Jn) (l : List ByteArray) (ok : Nat → Prop) (w : World) (h : Is jb j w) (hc : Kd.R Kd.string 9 w B ok j.cv l) (hl : l.length ≤ 1000000000) :
    Calls Try.prog 47 #[.pointer (some ⟨jb, 0, none⟩)] w fun e w' => ∃ v, e = .returned v ∧ Kd.R Kd.string 9 w' w.heap.size (fun _ => True) v l ∧ Below w.heap.size w w' := by
  obtain ⟨A, c, hv, _, hC⟩ := Kd.R_reads hc
  have c5 := h.c5
  rw [hv] at c5
  clear hc h
  go_enter Try.func47, Try.ntmps47
  go_wp2_with (first
    | ((with_reducible refine gate_builtin (b := .append) (xs := #[.const (.slice none 0 0), .tmp 8]) rfl ?_); at_builtin
       refine Kd.R_append_rows Kd.string (w0 := w) w.heap.size rfl (.const (.slice none 0 0)) (.tmp 8) 32 9 (.string ⟨#[]⟩) 16 rfl Try.underlying32 info9 rfl (by decide) (by omega) (.slice none 0 0) [] l _ _ _ (fun _ => True) (fun _ => False) rfl rfl ?aO ?aR (fun _ _ h => h) (fun _ h => h.elim) ?aF ?aB ?aS ?aL ?_
       (case aR => exact hC)
       (case aB => exact Below.refl _ _)
       (case aF => exact fun _ _ => trivial)
       (case aO => exact Kd.R_nil _ _ _ _ _)
       (case aS => exact Nat.le_refl _)
       (case aL => simp; omega)
       intro v1 w1 ho hb hg hat
       rw [List.nil_append] at ho
       clear hg hat))
  go_ret
  exact ⟨_, rfl, ho, hb⟩
/-- The commands are put away. -/
theorem Jo.clear {jb B : Nat} {j : Jn} {l : List ByteArray} {d : Dk} {w : World} (h : Jo jb j l d B w) : Jo jb { j with cv := .slice none 0 0 } [] d B (w.setCell ⟨jb, 5, none⟩ (.slice none 0 0)) := by
  have g : ∀ c, c ≠ jb → (w.setCell ⟨jb, 5, none⟩ (.slice none 0 0)).heap[c]? = w.heap[c]? := fun c hc => Below.heap_setCell _ _ _ _ hc
  exact ⟨h.jn.p5 _, (g _ (fun x => h.ne x.symm)).trans h.dk, Kd.R_nil _ _ _ _ _, h.ne, h.bj, h.bd⟩
theorem i64w (n : Int) (h0 : 0 ≤ n) (h1 : n < 9223372036854775808) : IntKind.i64.wrap n = n := by
  unfold IntKind.wrap
  simp [IntKind.bits, IntKind.signed]
  omega
theorem Jo.laterN {jb B n : Nat} {j : Jn} {l : List ByteArray} {d : Dk} {w w' : World} (h : Jo jb j l d B w) (hb : Below (w.drewN n).heap.size (w.drewN n) w') : Jo jb j l d B w' ∧ Below B w w' :=
  ⟨(h.drewN n).later hb, (⟨rfl, rfl, rfl, Nat.le_refl _, fun _ _ => rfl⟩ : Below B w (w.drewN n)).trans (hb.mono (by have := lt_of_block h.jn; have := h.bj; show B ≤ w.heap.size; omega))⟩
/-- The journal behind a turn. -/
def turnJ (j : Jn) (q : Nat) (st : ByteArray) : Jn := { j with file := 1 - j.file, gen := j.gen + 1, seq := j.seq + q, state := st, cv := .slice none 0 0 }
def turnD (d : Dk) (o : Int) (s : ByteArray) : Dk := synD (appD (cutD d o 0) o s) o

set_option maxRecDepth 100000 in
set_option maxHeartbeats 16000000 in
theorem Turn_at0 (jb B : Nat) (j : Jn) (l : List ByteArray) (d : Dk) (g q : Nat) (st : ByteArray) (w : World) (h : Jo jb j l d B w) (hf : d.Fits) (hj : j.dead = false) (hfile : j.file = 0) (hg : j.gen = (g : Nat)) (hq : j.seq = (q : Nat)) (hgb : g ≤ 1000000000) (hqb : q ≤ 1000000000) (hl : l.length ≤ 1000000000) (hs : st.size ≤ 1000000)
    (hz : (lay (g + 1) (q + l.length) st).size ≤ 1048576) (c0 : cutN d 1 0 = 0) (a0 : appN (cutD d 1 0) 1 (lay (g + 1) (q + l.length) st) = 0) (y0 : synN (appD (cutD d 1 0) 1 (lay (g + 1) (q + l.length) st)) 1 = 0) :
    Calls Try.prog 45 #[.pointer (some ⟨jb, 0, none⟩), .string st] w fun e w' => e = .returned (.int .i64 0) ∧ Jo jb (turnJ j l.length st) [] (turnD d 1 (lay (g + 1) (q + l.length) st)) B w' ∧ Below B w w' := by
  obtain ⟨A, c, hv, _, hC⟩ := Kd.R_reads h.cm
  have R := ready_any jb j w h.jn
  unfold jrdy at R
  rw [hj, if_neg (by simp)] at R
  have L := fun w' => lay_any (g + 1) (q + l.length) st (by omega) (by omega) (by omega) w'
  push_cast at L
  have S := fun w' (h' : Is jb j w') => Seq_any jb j A l.length c w' h' hv (by omega) (by omega) (by omega)
  rw [hq] at S
  unfold turnD
  generalize lay (g + 1) (q + l.length) st = s at *
  have hwr := i64w ((g : Int) + 1) (by omega) (by omega)
  clear hC
  go_enter Try.func45, Try.ntmps45
  go_wp2_with fail
  refine R.mono ?_; rintro e w1 ⟨rfl, rfl⟩
  clear R
  have c2 := h.jn.c2
  rw [hg] at c2
  have h1 : Jo jb j l d B w1.drew := ⟨h.jn, h.dk, Kd.R_drew h.cm, h.ne, h.bj, h.bd⟩
  go_wp2_with fail
  go_region_with (first
    | (go_at_call 48; refine (S _ (show Is jb j w1.drew from h.jn)).mono ?_; rintro e w2 ⟨rfl, nq, rfl⟩)
    | (go_at_call 69; (try rw [hwr]); refine (L _).mono ?_; rintro e w3 ⟨rfl, b3⟩))
  all_goals
    obtain ⟨h3, B3⟩ := h.laterN b3
    clear b3 h1 c2 h
    have c0_ := h3.jn.c0
    have c1_ := h3.jn.c1
    rw [hfile] at c1_
    go_wp2_with fail
    refine (D.Cut_any j.db d 1 0 _ h3.dk hf).mono ?_; rintro e w4 ⟨rfl, T4⟩
    rw [c0]
    have h4 := h3.turn T4
    have B4 := B3.trans (T4.below B h3.bd)
    clear T4 c0_ c1_ h3 B3
    have c0_ := h4.jn.c0
    go_wp2_with fail
    refine (D.Append_any j.db _ 1 s _ h4.dk (cutD_fits hf _ _)).mono ?_; rintro e w5 ⟨rfl, T4⟩
    rw [a0]
    have h5 := h4.turn T4
    have B5 := B4.trans (T4.below B h4.bd)
    clear T4 c0_ h4 B4
    have c0_ := h5.jn.c0
    go_wp2_with fail
    refine (D.Sync_any j.db _ 1 _ h5.dk (appD_fits (cutD_fits hf _ _) _ _)).mono ?_; rintro e w6 ⟨rfl, T4⟩
    rw [y0]
    have h6 := h5.turn T4
    have B6 := B5.trans (T4.below B h5.bd)
    clear T4 c0_ h5 B5
    go_wp2_with fail
    refine (S w6 h6.jn).mono ?_; rintro e w7 ⟨rfl, nq7, rfl⟩
    have h7 := h6.drewN nq7
    have B7 : Below B w1 (w6.drewN nq7) := B6.trans ⟨rfl, rfl, rfl, Nat.le_refl _, fun _ _ => rfl⟩
    clear h6 B6 S L
    generalize w6.drewN nq7 = w7 at *
    have q1 := h7.jn.c1
    have q2 := h7.jn.c2
    have q3 := h7.jn.c3
    have q4 := h7.jn.c4
    have q5 := h7.jn.c5
    rw [hg] at q2
    rw [hv] at q5
    have f1 := h7.jn.f1
    have f2 := h7.jn.f2
    have f3 := h7.jn.f3
    have f4 := h7.jn.f4
    have f5 := h7.jn.f5
    have e : turnJ j l.length st = { j with file := 1, gen := (g : Int) + 1, seq := (q : Int) + (l.length : Int), state := st, cv := .slice none 0 0 } := by unfold turnJ; rw [hfile, hg, hq]; congr 1
    have J1 := h7.put (h7.jn.p3 ((q : Int) + (l.length : Int))) rfl rfl
    have J2 := J1.put (J1.jn.p1 1) rfl rfl
    have J3 := J2.put (J2.jn.p2 ((g : Int) + 1)) rfl rfl
    have J4 := J3.put (J3.jn.p4 st) rfl rfl
    have J5 := J4.clear
    have hbj := h7.bj
    clear J1 J2 J3 J4 h7
    go_wp2_with fail
    go_ret
    rw [e]
    exact ⟨rfl, J5, ((((B7.setCell hbj _).setCell hbj _).setCell hbj _).setCell hbj _).setCell hbj _⟩

set_option maxRecDepth 100000 in
set_option maxHeartbeats 16000000 in
theorem Turn_at1 (jb B : Nat) (j : Jn) (l : List ByteArray) (d : Dk) (g q : Nat) (st : ByteArray) (w : World) (h : Jo jb j l d B w) (hf : d.Fits) (hj : j.dead = false) (hfile : j.file = 1) (hg : j.gen = (g : Nat)) (hq : j.seq = (q : Nat)) (hgb : g ≤ 1000000000) (hqb : q ≤ 1000000000) (hl : l.length ≤ 1000000000) (hs : st.size ≤ 1000000)
    (hz : (lay (g + 1) (q + l.length) st).size ≤ 1048576) (c0 : cutN d 0 0 = 0) (a0 : appN (cutD d 0 0) 0 (lay (g + 1) (q + l.length) st) = 0) (y0 : synN (appD (cutD d 0 0) 0 (lay (g + 1) (q + l.length) st)) 0 = 0) :
    Calls Try.prog 45 #[.pointer (some ⟨jb, 0, none⟩), .string st] w fun e w' => e = .returned (.int .i64 0) ∧ Jo jb (turnJ j l.length st) [] (turnD d 0 (lay (g + 1) (q + l.length) st)) B w' ∧ Below B w w' := by
  obtain ⟨A, c, hv, _, hC⟩ := Kd.R_reads h.cm
  have R := ready_any jb j w h.jn
  unfold jrdy at R
  rw [hj, if_neg (by simp)] at R
  have L := fun w' => lay_any (g + 1) (q + l.length) st (by omega) (by omega) (by omega) w'
  push_cast at L
  have S := fun w' (h' : Is jb j w') => Seq_any jb j A l.length c w' h' hv (by omega) (by omega) (by omega)
  rw [hq] at S
  unfold turnD
  generalize lay (g + 1) (q + l.length) st = s at *
  have hwr := i64w ((g : Int) + 1) (by omega) (by omega)
  clear hC
  go_enter Try.func45, Try.ntmps45
  go_wp2_with fail
  refine R.mono ?_; rintro e w1 ⟨rfl, rfl⟩
  clear R
  have c2 := h.jn.c2
  rw [hg] at c2
  have h1 : Jo jb j l d B w1.drew := ⟨h.jn, h.dk, Kd.R_drew h.cm, h.ne, h.bj, h.bd⟩
  go_wp2_with fail
  go_region_with (first
    | (go_at_call 48; refine (S _ (show Is jb j w1.drew from h.jn)).mono ?_; rintro e w2 ⟨rfl, nq, rfl⟩)
    | (go_at_call 69; (try rw [hwr]); refine (L _).mono ?_; rintro e w3 ⟨rfl, b3⟩))
  all_goals
    obtain ⟨h3, B3⟩ := h.laterN b3
    clear b3 h1 c2 h
    have c0_ := h3.jn.c0
    have c1_ := h3.jn.c1
    rw [hfile] at c1_
    go_wp2_with fail
    refine (D.Cut_any j.db d 0 0 _ h3.dk hf).mono ?_; rintro e w4 ⟨rfl, T4⟩
    rw [c0]
    have h4 := h3.turn T4
    have B4 := B3.trans (T4.below B h3.bd)
    clear T4 c0_ c1_ h3 B3
    have c0_ := h4.jn.c0
    go_wp2_with fail
    refine (D.Append_any j.db _ 0 s _ h4.dk (cutD_fits hf _ _)).mono ?_; rintro e w5 ⟨rfl, T4⟩
    rw [a0]
    have h5 := h4.turn T4
    have B5 := B4.trans (T4.below B h4.bd)
    clear T4 c0_ h4 B4
    have c0_ := h5.jn.c0
    go_wp2_with fail
    refine (D.Sync_any j.db _ 0 _ h5.dk (appD_fits (cutD_fits hf _ _) _ _)).mono ?_; rintro e w6 ⟨rfl, T4⟩
    rw [y0]
    have h6 := h5.turn T4
    have B6 := B5.trans (T4.below B h5.bd)
    clear T4 c0_ h5 B5
    go_wp2_with fail
    refine (S w6 h6.jn).mono ?_; rintro e w7 ⟨rfl, nq7, rfl⟩
    have h7 := h6.drewN nq7
    have B7 : Below B w1 (w6.drewN nq7) := B6.trans ⟨rfl, rfl, rfl, Nat.le_refl _, fun _ _ => rfl⟩
    clear h6 B6 S L
    generalize w6.drewN nq7 = w7 at *
    have q1 := h7.jn.c1
    have q2 := h7.jn.c2
    have q3 := h7.jn.c3
    have q4 := h7.jn.c4
    have q5 := h7.jn.c5
    rw [hg] at q2
    rw [hv] at q5
    have f1 := h7.jn.f1
    have f2 := h7.jn.f2
    have f3 := h7.jn.f3
    have f4 := h7.jn.f4
    have f5 := h7.jn.f5
    have e : turnJ j l.length st = { j with file := 0, gen := (g : Int) + 1, seq := (q : Int) + (l.length : Int), state := st, cv := .slice none 0 0 } := by unfold turnJ; rw [hfile, hg, hq]; congr 1
    have J1 := h7.put (h7.jn.p3 ((q : Int) + (l.length : Int))) rfl rfl
    have J2 := J1.put (J1.jn.p1 0) rfl rfl
    have J3 := J2.put (J2.jn.p2 ((g : Int) + 1)) rfl rfl
    have J4 := J3.put (J3.jn.p4 st) rfl rfl
    have J5 := J4.clear
    have hbj := h7.bj
    clear J1 J2 J3 J4 h7
    go_wp2_with fail
    go_ret
    rw [e]
    exact ⟨rfl, J5, ((((B7.setCell hbj _).setCell hbj _).setCell hbj _).setCell hbj _).setCell hbj _⟩
end Go.Proofs.Ytejfdiiennnjjaa.J
namespace Go.Proofs.Ytejfdiiennnjjaa.J
open Go.RowKit Go.Proofs Go.Proofs.Ytejfdiiennnjjaa Go.Proofs.Ytejfdiiennnjjaa.D
set_option linter.unusedVariables false

/-- A disk with power, without a limit, whose first two files have that, all of it safe. -/
structure Two (d : Dk) (A B : ByteArray) : Prop where
  made : d.made = true
  dead : d.dead = false
  left : d.left = -1
  fits : d.Fits
  s0 : d.s0 = A
  l0 : d.l0 = ⟨#[]⟩
  s1 : d.s1 = B
  l1 : d.l1 = ⟨#[]⟩
theorem two_zero : Two zero ⟨#[]⟩ ⟨#[]⟩ := ⟨rfl, rfl, rfl, zero_fits, rfl, rfl, rfl, rfl⟩
theorem Two.rdy {d : Dk} {A B : ByteArray} (h : Two d A B) (i : Int) (h0 : 0 ≤ i) (h4 : i < 4) : rdy d i = 0 := by
  unfold D.rdy
  rw [if_neg (by rw [h.made]; simp), if_neg (by rw [h.dead]; simp), if_neg (by omega)]
theorem Two.use {d : Dk} {A B : ByteArray} (h : Two d A B) : useD d = d ∧ useN d = 0 := by
  have := h.left
  unfold useD useN
  rw [if_neg (by omega), if_neg (by omega), if_neg (by omega)]
  exact ⟨rfl, rfl⟩
theorem app_none (x : ByteArray) : (⟨#[]⟩ : ByteArray) ++ x = x := ByteArray.empty_append
theorem none_app (x : ByteArray) : x ++ (⟨#[]⟩ : ByteArray) = x := ByteArray.append_empty
theorem ext_none (x : ByteArray) : x.extract 0 (Int.toNat 0) = ⟨#[]⟩ := by
  apply ByteArray.ext
  simp

theorem Two.cut0 {d : Dk} {A B : ByteArray} (h : Two d A B) : cutN d 0 0 = 0 ∧ Two (cutD d 0 0) ⟨#[]⟩ B := by
  obtain ⟨u1, u2⟩ := h.use
  have hn : ¬ ((0 : Int) < 0 ∨ (d.len 0 : Int) < 0) := by omega
  have hf := cutD_fits h.fits 0 0
  have e : cutD d 0 0 = { d with s0 := ⟨#[]⟩, l0 := ⟨#[]⟩ } := by
    unfold cutD
    rw [h.rdy 0 (by omega) (by omega), if_neg (by simp), if_neg hn, if_neg (by rw [h.left]; omega), if_pos (by omega), u1, ext_none]
    rfl
  rw [e] at hf ⊢
  refine ⟨?_, h.made, h.dead, h.left, hf, rfl, rfl, h.s1, h.l1⟩
  unfold cutN
  rw [h.rdy 0 (by omega) (by omega), if_neg (by simp), if_neg hn, u2]
theorem Two.app0 {d : Dk} {A B : ByteArray} (h : Two d A B) (s : ByteArray) (hs : A.size + s.size ≤ 1048576) : appN d 0 s = 0 ∧ synN (appD d 0 s) 0 = 0 ∧ Two (synD (appD d 0 s) 0) (A ++ s) B := by
  obtain ⟨u1, u2⟩ := h.use
  have hl : d.len 0 = A.size := by
    show d.s0.size + d.l0.size = _
    rw [h.s0, h.l0, D.no_len, Nat.add_zero]
  have e : appD d 0 s = { d with l0 := s } := by
    unfold appD
    rw [h.rdy 0 (by omega) (by omega), if_neg (by simp), if_neg (by rw [hl]; omega), if_neg (by rw [h.left]; omega), u1]
    show { d with l0 := d.l0 ++ s } = _
    rw [h.l0, app_none]
  have hf1 := appD_fits h.fits 0 s
  have hf2 := synD_fits hf1 0
  rw [e] at hf1 hf2 ⊢
  have hr : D.rdy { d with l0 := s } 0 = 0 := by
    have q := h.rdy 0 (by omega) (by omega)
    unfold D.rdy at q ⊢
    exact q
  have hu : useD { d with l0 := s } = { d with l0 := s } ∧ useN { d with l0 := s } = 0 := by
    have := h.left
    unfold useD useN
    rw [if_neg (show ¬ d.left = 0 by omega), if_neg (show ¬ 0 < d.left by omega), if_neg (show ¬ d.left = 0 by omega)]
    exact ⟨rfl, rfl⟩
  have e2 : synD { d with l0 := s } 0 = { d with s0 := A ++ s, l0 := ⟨#[]⟩ } := by
    unfold synD
    rw [hr, if_neg (by simp), if_neg (show ¬ d.left = 0 by rw [h.left]; omega), hu.1]
    show { d with s0 := d.s0 ++ s, l0 := ⟨#[]⟩ } = _
    rw [h.s0]
  rw [e2] at hf2 ⊢
  refine ⟨?_, ?_, h.made, h.dead, h.left, hf2, rfl, rfl, h.s1, h.l1⟩
  · unfold appN
    rw [h.rdy 0 (by omega) (by omega), if_neg (by simp), if_neg (by rw [hl]; omega), u2]
  · unfold synN
    rw [hr, if_neg (by simp), hu.2]

theorem Two.cut1 {d : Dk} {A B : ByteArray} (h : Two d A B) : cutN d 1 0 = 0 ∧ Two (cutD d 1 0) A ⟨#[]⟩ := by
  obtain ⟨u1, u2⟩ := h.use
  have hn : ¬ ((0 : Int) < 0 ∨ (d.len 1 : Int) < 0) := by omega
  have hf := cutD_fits h.fits 1 0
  have e : cutD d 1 0 = { d with s1 := ⟨#[]⟩, l1 := ⟨#[]⟩ } := by
    unfold cutD
    rw [h.rdy 1 (by omega) (by omega), if_neg (by simp), if_neg hn, if_neg (by rw [h.left]; omega), if_pos (by omega), u1, ext_none]
    rfl
  rw [e] at hf ⊢
  refine ⟨?_, h.made, h.dead, h.left, hf, h.s0, h.l0, rfl, rfl⟩
  unfold cutN
  rw [h.rdy 1 (by omega) (by omega), if_neg (by simp), if_neg hn, u2]
theorem Two.app1 {d : Dk} {A B : ByteArray} (h : Two d A B) (s : ByteArray) (hs : B.size + s.size ≤ 1048576) : appN d 1 s = 0 ∧ synN (appD d 1 s) 1 = 0 ∧ Two (synD (appD d 1 s) 1) A (B ++ s) := by
  obtain ⟨u1, u2⟩ := h.use
  have hl : d.len 1 = B.size := by
    show d.s1.size + d.l1.size = _
    rw [h.s1, h.l1, D.no_len, Nat.add_zero]
  have e : appD d 1 s = { d with l1 := s } := by
    unfold appD
    rw [h.rdy 1 (by omega) (by omega), if_neg (by simp), if_neg (by rw [hl]; omega), if_neg (by rw [h.left]; omega), u1]
    show { d with l1 := d.l1 ++ s } = _
    rw [h.l1, app_none]
  have hf1 := appD_fits h.fits 1 s
  have hf2 := synD_fits hf1 1
  rw [e] at hf1 hf2 ⊢
  have hr : D.rdy { d with l1 := s } 1 = 0 := by
    have q := h.rdy 1 (by omega) (by omega)
    unfold D.rdy at q ⊢
    exact q
  have hu : useD { d with l1 := s } = { d with l1 := s } ∧ useN { d with l1 := s } = 0 := by
    have := h.left
    unfold useD useN
    rw [if_neg (show ¬ d.left = 0 by omega), if_neg (show ¬ 0 < d.left by omega), if_neg (show ¬ d.left = 0 by omega)]
    exact ⟨rfl, rfl⟩
  have e2 : synD { d with l1 := s } 1 = { d with s1 := B ++ s, l1 := ⟨#[]⟩ } := by
    unfold synD
    rw [hr, if_neg (by simp), if_neg (show ¬ d.left = 0 by rw [h.left]; omega), hu.1]
    show { d with s1 := d.s1 ++ s, l1 := ⟨#[]⟩ } = _
    rw [h.s1]
  rw [e2] at hf2 ⊢
  refine ⟨?_, ?_, h.made, h.dead, h.left, hf2, h.s0, h.l0, rfl, rfl⟩
  · unfold appN
    rw [h.rdy 1 (by omega) (by omega), if_neg (by simp), if_neg (by rw [hl]; omega), u2]
  · unfold synN
    rw [hr, if_neg (by simp), hu.2]

theorem Two.fmt {d : Dk} {A B : ByteArray} (h : Two d A B) (st : ByteArray) (hs : (lay 1 0 st).size ≤ 1048576) :
    cutN d 0 0 = 0 ∧ cutN (cutD d 0 0) 1 0 = 0 ∧ appN (cuts d 2) 0 (lay 1 0 st) = 0 ∧ synN (appD (cuts d 2) 0 (lay 1 0 st)) 0 = 0 ∧ Two (fmtD d st) (lay 1 0 st) ⟨#[]⟩ := by
  obtain ⟨a1, h1⟩ := h.cut0
  obtain ⟨a2, h2⟩ := h1.cut1
  obtain ⟨a3, a4, h3⟩ := h2.app0 (lay 1 0 st) (by rw [D.no_len]; omega)
  rw [app_none] at h3
  exact ⟨a1, a2, a3, a4, h3⟩
end Go.Proofs.Ytejfdiiennnjjaa.J
namespace Go.Proofs.Ytejfdiiennnjjaa.J
open Go.RowKit Go.Proofs Go.Proofs.Ytejfdiiennnjjaa Go.Proofs.YtejfdiiennnjjaaW.PrintWords Go.Proofs.Ytejfdiiennnjjaa.D
set_option linter.unusedVariables false

/-- A journal that has power: its block, its disk's; the file that counts, how many there were, how many commands ahead, the state, the commands; what the two files have. -/
structure Jt (jb db : Nat) (f : Int) (g q : Nat) (st : ByteArray) (l : List ByteArray) (A C : ByteArray) (B : Nat) (w : World) : Prop where
  ex : ∃ (j : Jn) (d : Dk), Jo jb j l d B w ∧ j.db = db ∧ j.file = f ∧ j.gen = (g : Nat) ∧ j.seq = (q : Nat) ∧ j.state = st ∧ j.dead = false ∧ Two d A C
theorem jt_format (b : Nat) (st : ByteArray) (w : World) (h : D.Is b zero w) (hs : st.size ≤ 1000000) (hz : (lay 1 0 st).size ≤ 1048576) :
    Calls Try.prog 51 #[.pointer (some ⟨b, 0, none⟩), .string st] w fun e w' => ∃ jb, e = .returned (.tuple #[.pointer (some ⟨jb, 0, none⟩), .int .i64 0]) ∧ Jt jb b 0 1 0 st [] (lay 1 0 st) ⟨#[]⟩ b w' ∧ Below b w w' := by
  obtain ⟨c0, c1, a0, y0, t⟩ := two_zero.fmt st hz
  refine (Format_ok b zero st w h zero_fits hs c0 c1 a0 y0).mono ?_
  rintro e w' ⟨jb, he, J, T, hj⟩
  exact ⟨jb, he, ⟨_, _, J, rfl, rfl, rfl, rfl, rfl, rfl, t⟩, T.below b (Nat.le_refl _)⟩
section
variable {jb db B g q : Nat} {st : ByteArray} {l : List ByteArray} {A C : ByteArray} {w w' : World} {f : Int}
theorem Jt.lt (h : Jt jb db f g q st l A C B w) : B ≤ jb ∧ jb < w.heap.size ∧ B ≤ db ∧ db < w.heap.size := by
  obtain ⟨j, d, J, rfl, _⟩ := h.ex
  exact ⟨J.bj, lt_of_block J.jn, J.bd, lt_of_block J.dk⟩
theorem Jt.later (h : Jt jb db f g q st l A C B w) (hb : Below w.heap.size w w') : Jt jb db f g q st l A C B w' := by
  obtain ⟨j, d, J, r⟩ := h.ex
  exact ⟨j, d, J.later hb, r⟩
theorem Jt.drewN (h : Jt jb db f g q st l A C B w) (n : Nat) : Jt jb db f g q st l A C B (w.drewN n) := by
  obtain ⟨j, d, J, r⟩ := h.ex
  exact ⟨j, d, J.drewN n, r⟩
theorem jt_state (h : Jt jb db f g q st l A C B w) : Calls Try.prog 46 #[.pointer (some ⟨jb, 0, none⟩)] w fun e w' => e = .returned (.string st) ∧ w' = w := by
  obtain ⟨j, d, J, e1, e2, e3, e4, e5, e6, t⟩ := h.ex
  have := State_any jb j w J.jn
  rw [e5] at this
  exact this
theorem jt_seq (h : Jt jb db f g q st l A C B w) (hq : q ≤ 1000000000) (hl : l.length ≤ 1000000000) : Calls Try.prog 48 #[.pointer (some ⟨jb, 0, none⟩)] w fun e w' => e = .returned (.int .i64 ((q + l.length : Nat) : Int)) ∧ ∃ n, w' = w.drewN n := by
  obtain ⟨j, d, J, e1, e2, e3, e4, e5, e6, t⟩ := h.ex
  obtain ⟨A0, c, hv⟩ := Kd.R_slice J.cm
  have := Seq_any jb j A0 l.length c w J.jn hv (by omega) (by omega) (by omega)
  rw [e4] at this
  push_cast
  exact this
theorem jt_cmds (h : Jt jb db f g q st l A C B w) (hl : l.length ≤ 1000000000) : Calls Try.prog 47 #[.pointer (some ⟨jb, 0, none⟩)] w fun e w' => ∃ v, e = .returned v ∧ Kd.R Kd.string 9 w' w.heap.size (fun _ => True) v l ∧ Below w.heap.size w w' := by
  obtain ⟨j, d, J, r⟩ := h.ex
  exact Commands_any jb B j l _ w J.jn J.cm hl

theorem jt_add0 (h : Jt jb db 0 g q st l A C B w) (cmd : ByteArray) (hs : cmd.size ≤ 4096) (hl : l.length ≤ 1000000000) (hz : A.size + cmd.size + 12 ≤ 1048576) :
    Calls Try.prog 44 #[.pointer (some ⟨jb, 0, none⟩), .string cmd] w fun e w' => e = .returned (.int .i64 0) ∧ Jt jb db 0 g q st (l ++ [cmd]) (A ++ rec1 cmd) C B w' ∧ Below B w w' := by
  obtain ⟨j, d, J, e1, e2, e3, e4, e5, e6, t⟩ := h.ex
  obtain ⟨a0, y0, t2⟩ := t.app0 (rec1 cmd) (by rw [rec1_size]; omega)
  have R := Add_ok jb B j l d cmd w J t.fits e6 hs hl (by rw [e2]; exact a0) (by rw [e2]; exact y0)
  rw [e2] at R
  refine R.mono ?_
  rintro e w' ⟨he, cv', J', b'⟩
  exact ⟨he, ⟨_, _, J', e1, rfl, e3, e4, e5, e6, t2⟩, b'⟩
theorem jt_turn0 (h : Jt jb db 0 g q st l A C B w) (st' : ByteArray) (hgb : g ≤ 1000000000) (hqb : q ≤ 1000000000) (hl : l.length ≤ 1000000000) (hs : st'.size ≤ 1000000) (hz : (lay (g + 1) (q + l.length) st').size ≤ 1048576) :
    Calls Try.prog 45 #[.pointer (some ⟨jb, 0, none⟩), .string st'] w fun e w' => e = .returned (.int .i64 0) ∧ Jt jb db 1 (g + 1) (q + l.length) st' [] A (lay (g + 1) (q + l.length) st') B w' ∧ Below B w w' := by
  obtain ⟨j, d, J, e1, e2, e3, e4, e5, e6, t⟩ := h.ex
  obtain ⟨c0, t1⟩ := t.cut1
  obtain ⟨a0, y0, t2⟩ := t1.app1 (lay (g + 1) (q + l.length) st') (by rw [D.no_len]; omega)
  rw [app_none] at t2
  have R := Turn_at0 jb B j l d g q st' w J t.fits e6 e2 e3 e4 hgb hqb hl hs hz c0 a0 y0
  refine R.mono ?_
  rintro e w' ⟨he, J', b'⟩
  exact ⟨he, ⟨_, _, J', e1, by show 1 - j.file = _; rw [e2]; rfl, by show j.gen + 1 = _; rw [e3]; push_cast; rfl, by show j.seq + (l.length : Int) = _; rw [e4]; push_cast; rfl, rfl, e6, t2⟩, b'⟩

theorem jt_add1 (h : Jt jb db 1 g q st l A C B w) (cmd : ByteArray) (hs : cmd.size ≤ 4096) (hl : l.length ≤ 1000000000) (hz : C.size + cmd.size + 12 ≤ 1048576) :
    Calls Try.prog 44 #[.pointer (some ⟨jb, 0, none⟩), .string cmd] w fun e w' => e = .returned (.int .i64 0) ∧ Jt jb db 1 g q st (l ++ [cmd]) A (C ++ rec1 cmd) B w' ∧ Below B w w' := by
  obtain ⟨j, d, J, e1, e2, e3, e4, e5, e6, t⟩ := h.ex
  obtain ⟨a0, y0, t2⟩ := t.app1 (rec1 cmd) (by rw [rec1_size]; omega)
  have R := Add_ok jb B j l d cmd w J t.fits e6 hs hl (by rw [e2]; exact a0) (by rw [e2]; exact y0)
  rw [e2] at R
  refine R.mono ?_
  rintro e w' ⟨he, cv', J', b'⟩
  exact ⟨he, ⟨_, _, J', e1, rfl, e3, e4, e5, e6, t2⟩, b'⟩
theorem jt_turn1 (h : Jt jb db 1 g q st l A C B w) (st' : ByteArray) (hgb : g ≤ 1000000000) (hqb : q ≤ 1000000000) (hl : l.length ≤ 1000000000) (hs : st'.size ≤ 1000000) (hz : (lay (g + 1) (q + l.length) st').size ≤ 1048576) :
    Calls Try.prog 45 #[.pointer (some ⟨jb, 0, none⟩), .string st'] w fun e w' => e = .returned (.int .i64 0) ∧ Jt jb db 0 (g + 1) (q + l.length) st' [] (lay (g + 1) (q + l.length) st') C B w' ∧ Below B w w' := by
  obtain ⟨j, d, J, e1, e2, e3, e4, e5, e6, t⟩ := h.ex
  obtain ⟨c0, t1⟩ := t.cut0
  obtain ⟨a0, y0, t2⟩ := t1.app0 (lay (g + 1) (q + l.length) st') (by rw [D.no_len]; omega)
  rw [app_none] at t2
  have R := Turn_at1 jb B j l d g q st' w J t.fits e6 e2 e3 e4 hgb hqb hl hs hz c0 a0 y0
  refine R.mono ?_
  rintro e w' ⟨he, J', b'⟩
  exact ⟨he, ⟨_, _, J', e1, by show 1 - j.file = _; rw [e2]; rfl, by show j.gen + 1 = _; rw [e3]; push_cast; rfl, by show j.seq + (l.length : Int) = _; rw [e4]; push_cast; rfl, rfl, e6, t2⟩, b'⟩
end
end Go.Proofs.Ytejfdiiennnjjaa.J
namespace Go.Proofs.Ytejfdiiennnjjaa.J
open Go.RowKit Go.Proofs Go.Proofs.Ytejfdiiennnjjaa Go.Proofs.YtejfdiiennnjjaaW.PrintWords Go.Proofs.Ytejfdiiennnjjaa.D
set_option linter.unusedVariables false

theorem texts_any (A0 : Option Addr) (c0 : Nat) (a : List ByteArray) (A1 : Option Addr) (c1 : Nat) (b : List ByteArray) (w : World) (h0 : Kd.C Kd.string w A0 a.length a) (hc0 : a.length ≤ c0) (h1 : Kd.C Kd.string w A1 b.length b) (hc1 : b.length ≤ c1) (ha : a.length ≤ 1000000000) :
    Calls Try.prog 30 #[.slice A0 a.length c0, .slice A1 b.length c1] w fun e w' => e = .returned (.bool (decide (a = b))) ∧ ∃ n, w' = w.drewN n := by
  obtain ⟨k, hk⟩ := (Facts.Texts_ev a b (by omega)).rounds
  exact (F.lombardref07_Texts.calls k A0 c0 a A1 c1 b _ w h0 hc0 h1 hc1 hk).mono fun e w' h => ⟨h.1, h.2.out⟩
def s_ : ByteArray := ⟨#[115]⟩
def a_ : ByteArray := ⟨#[97]⟩
def b_ : ByteArray := ⟨#[98]⟩
def t_ : ByteArray := ⟨#[116]⟩
def c_ : ByteArray := ⟨#[99]⟩
theorem small_lay (g q : Nat) (st : ByteArray) (h : st.size ≤ 20000) : (lay g q st).size ≤ 21000 := by
  have := lay_bound g q st (by omega)
  omega
set_option maxRecDepth 100000 in
set_option maxHeartbeats 4000000 in
theorem awake_any (w : World) : Calls Try.prog 52 #[] w fun e w' => e = .returned (.bool true) ∧ Below w.heap.size w w' := by
  have zs : s_.size = 1 := rfl
  have za : a_.size = 1 := rfl
  have zb : b_.size = 1 := rfl
  have zt : t_.size = 1 := rfl
  have zc : c_.size = 1 := rfl
  have l0 := small_lay 1 0 s_ (by omega)
  have l1 := small_lay 2 2 t_ (by omega)
  have ht : (t_.toList == [116]) = true := by rw [Facts.toList_L]; decide
  go_enter Try.func52, Try.ntmps52
  go_wp2_with fail
  refine (D.New_any w).mono ?_; rintro e w1 ⟨rfl, h1, b1⟩
  go_wp2_with fail
  refine (jt_format w.heap.size s_ w1 h1 (by omega) (by omega)).mono ?_; rintro e w2 ⟨jb, rfl, j2, b2⟩
  have B2 := b1.trans b2
  clear b1 b2 h1
  go_wp2_with fail
  refine (jt_add0 j2 a_ (by omega) (by simp) (by omega)).mono ?_; rintro e w3 ⟨rfl, j3, b3⟩
  have B3 := B2.trans b3
  clear b3 j2 B2
  go_wp2_with fail
  refine (jt_add0 j3 b_ (by omega) (by simp) (by rw [ByteArray.size_append, rec1_size]; omega)).mono ?_; rintro e w4 ⟨rfl, j4, b4⟩
  have B4 := B3.trans b4
  clear b4 j3 B3
  go_wp2_with fail
  refine (jt_turn0 j4 t_ (by omega) (by omega) (by simp) (by omega) (by show (lay 2 2 t_).size ≤ _; omega)).mono ?_; rintro e w5 ⟨rfl, j5, b5⟩
  have B5 := B4.trans b5
  clear b5 j4 B4
  go_wp2_with fail
  refine (jt_add1 j5 c_ (by omega) (by simp) (by show (lay 2 2 t_).size + _ + _ ≤ _; omega)).mono ?_; rintro e w6 ⟨rfl, j6, b6⟩
  have B6 := B5.trans b6
  clear b6 j5 B5
  go_wp2_with fail
  refine (jt_state j6).mono ?_; rintro e w7 ⟨rfl, rfl⟩
  go_wp2_with fail
  refine (jt_cmds j6 (by simp)).mono ?_; rintro e w8 ⟨v, rfl, r8, b8⟩
  obtain ⟨A8, c8, rfl⟩ := Kd.R_slice r8
  have j8 := j6.later b8
  have B8 := B6.trans (b8.mono (Nat.le_trans j6.lt.1 (Nat.le_of_lt j6.lt.2.1)))
  have e9 := Kd.R_reads' (Kd.R_alloc r8 (.cells #[.string c_] 9))
  have j9 := j8.later ((Below.refl _ _).alloc (Nat.le_refl _) (.cells #[.string c_] 9))
  have B9 := B8.alloc (Nat.le_trans j8.lt.1 (Nat.le_of_lt j8.lt.2.1)) (.cells #[.string c_] 9)
  have n9 : Kd.C Kd.string (w8.alloc (.cells #[.string c_] 9)) (some ⟨w8.heap.size, 0, none⟩) [c_].length [c_] := by
    refine Kd.C_of_reads (d := ByteArray.empty) ⟨rfl, by simp, fun _ => ⟨_, rfl, fun k hk => ?_⟩⟩
    obtain rfl : k = 0 := by simpa using hk
    rw [show (⟨w8.heap.size, 0, none⟩ : Addr).add 0 = ⟨w8.heap.size, 0, none⟩ from rfl]
    simp
  have X := texts_any A8 c8 [c_] (some ⟨w8.heap.size, 0, none⟩) 1 [c_] (w8.alloc (.cells #[.string c_] 9)) e9.2.2 e9.2.1 n9 (by simp) (by simp)
  rw [show decide ([c_] = [c_]) = true from decide_eq_true rfl] at X
  clear r8 b8 j6 B6 j8 B8 e9 n9
  go_wp2_with fail
  refine X.mono ?_; rintro e w9 ⟨rfl, n9, rfl⟩
  have j9 := j9.drewN n9
  clear X
  go_wp2_with fail
  refine (jt_seq j9 (by simp) (by simp)).mono ?_; rintro e w10 ⟨rfl, n10, rfl⟩
  have B10 : Below w.heap.size w ((w8.alloc (.cells #[.string c_] 9)).drewN (n9 + n10)) := B9.trans ⟨rfl, rfl, rfl, Nat.le_refl _, fun _ _ => rfl⟩
  go_wp2_with fail
  go_ret
  exact ⟨rfl, B10⟩
end Go.Proofs.Ytejfdiiennnjjaa.J
