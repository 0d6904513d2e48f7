/- What is laid is read as it was; lists of texts that are few and short; FramePuts and FrameBack come to true. -/
import Derived.Test.YtejfdiiennnjjaaGx
import Derived.Test.YtejfdiiennnjjaaAll
namespace Go.Proofs.Ytejfdiiennnjjaa.Facts
open Go.RowKit Go.Proofs.Ytejfdiiennnjjaa.F Go.Proofs.YtejfdiiennnjjaaW.PrintWords Go.Proofs.YtejfdiiennnjjaaW.PrintLast Go.Proofs.YtejfdiiennnjjaaW.PrintMore Go.Proofs.Ytejfdiiennnjjaa
set_option linter.unusedVariables false

theorem hdr_put (n : Nat) (h : n < 4294967296) (x : List UInt8) : hdr (fourL n ++ (fourL (4294967295 - n) ++ x)) = true := by
  show hdr (UInt8.ofNat (n % 256) :: UInt8.ofNat (n / 256 % 256) :: UInt8.ofNat (n / 65536 % 256) :: UInt8.ofNat (n / 16777216 % 256) :: UInt8.ofNat ((4294967295 - n) % 256) :: UInt8.ofNat ((4294967295 - n) / 256 % 256) :: UInt8.ofNat ((4294967295 - n) / 65536 % 256) :: UInt8.ofNat ((4294967295 - n) / 16777216 % 256) :: x) = true
  rw [hdr_eight, ofNat_toNat8 _ (by omega), ofNat_toNat8 _ (by omega), ofNat_toNat8 _ (by omega), ofNat_toNat8 _ (by omega), ofNat_toNat8 _ (by omega), ofNat_toNat8 _ (by omega), ofNat_toNat8 _ (by omega), ofNat_toNat8 _ (by omega)]
  omega

theorem nextL_put (r rest : List UInt8) (h : r.length ≤ 4096) : nextL (putL r ++ rest) = (S r, ((r.length + 12 : Nat) : Int), 0) := by
  have hn : numL (putL r ++ rest) = r.length := by
    unfold putL; rw [List.append_assoc]; exact numL_fourL _ (by omega) _
  have hh : hdr (putL r ++ rest) = true := by
    unfold putL; rw [List.append_assoc, List.append_assoc]; exact hdr_put _ (by omega) _
  have hl : (putL r ++ rest).length = r.length + 12 + rest.length := by rw [List.length_append, putL_len]
  have h8 : (putL r ++ rest).drop 8 = r ++ (fourL (sumN r) ++ rest) := by
    unfold putL
    rw [List.append_assoc, List.append_assoc, List.append_assoc, ← List.append_assoc (fourL r.length)]
    exact List.drop_left' (by simp [fourL_len])
  have h9 : (putL r ++ rest).drop (8 + r.length) = fourL (sumN r) ++ rest := by
    rw [← List.drop_drop, h8, List.drop_left]
  unfold nextL
  rw [if_pos hh, if_neg (by omega), hn, if_neg (by omega), if_neg (by omega), h8, h9, List.take_left, numL_fourL _ (sumN_lt _), if_pos rfl]

theorem readL_flat (l : List ByteArray) (h : okAll l = true) : readL (flat l) = (l, (flat l).length, 0) := by
  induction l with
  | nil => rw [readL_eq, if_pos (by rfl)]; rfl
  | cons s l ih =>
    have hs : s.size ≤ 4096 ∧ okAll l = true := by
      unfold okAll at h ⊢; rw [List.all_cons, Bool.and_eq_true, decide_eq_true_eq] at h; exact h
    have hf : flat (s :: l) = putL (L s) ++ flat l := by simp [flat]
    have hlen := putL_len (L s)
    have hne : ¬ flat (s :: l) = [] := fun e => by
      rw [hf] at e
      have := List.append_eq_nil_iff.1 e
      rw [this.1] at hlen; simp at hlen
    have hN := nextL_put (L s) (flat l) (by rw [L_len]; exact hs.1)
    rw [← hf] at hN
    have hd : (flat (s :: l)).drop ((L s).length + 12) = flat l := by rw [hf, ← hlen, List.drop_left]
    rw [readL_eq, if_neg hne, hN, if_pos rfl, Int.toNat_natCast, hd, ih hs.2, S_L, hf, List.length_append, hlen]

theorem RAll_l0 (l : List ByteArray) (hb : laid l ≤ 140737488351232) : ∀ (d i : Nat), i + d = l.length → okAll (l.take i) = true →
    Ev (fun k => lombardref07_All.l0 k l (S (flat (l.take i))) (i : Int)) (allS l) := by
  have hll : l.length ≤ 140737488351232 := by have := laid_len l; omega
  intro d
  induction d with
  | zero =>
    intro i h hok
    obtain rfl : i = l.length := by omega
    rw [List.take_length] at hok ⊢
    have hyes : allS l = (S (flat l), 0) := by unfold allS; rw [hok]; rfl
    rw [hyes]
    refine Ev.from 0 (fun m _ => ?_)
    rw [lombardref07_All.l0, if_neg (by omega)]
  | succ d ih =>
    intro i h hok
    have hlt : i < l.length := by omega
    have e : rdOf ByteArray.empty l (i : Int) = l[i] := by
      unfold rdOf
      rw [Int.toNat_natCast, List.getD_eq_getElem?_getD, List.getElem?_eq_getElem hlt, Option.getD_some]
    have hw : wrap64 ((i : Int) + 1) = ((i + 1 : Nat) : Int) := by rw [w64 (by omega) (by omega)]; omega
    have hsl := size_laid l i hlt
    have hfl := flat_len (l.take i)
    have hP := RPut_ev l[i] (by omega)
    obtain ⟨K1, h1⟩ := hP
    have g0 : (i : Int) < (l.length : Int) := by omega
    have g1 : (0 : Int) ≤ (i : Int) := by omega
    by_cases h4 : l[i].size ≤ 4096
    · obtain ⟨K2, h2⟩ := ih (i + 1) (by omega) (by rw [ok_snoc l i hlt, hok, decide_eq_true h4]; rfl)
      have hps : putS (L l[i]) = (S (putL (L l[i])), 0) := by unfold putS; rw [L_len, if_pos h4]
      have ej : S (flat (l.take i)) ++ S (putL (L l[i])) = S (flat (l.take (i + 1))) := by
        rw [flat_snoc l i hlt]; apply eq_S; rw [L_append, L_S, L_S]
      have g2 : (S (flat (l.take i))).size + (S (putL (L l[i]))).size ≤ 9223372036854775807 := by rw [S_size, S_size, hfl, putL_len, L_len]; omega
      refine Ev.from (max K1 K2) (fun m hm => ?_)
      have k1 : lombardref07_Put.f m l[i] = some (S (putL (L l[i])), 0) := by rw [← hps]; exact h1 m (by omega)
      have k2 := h2 m (by omega)
      rw [lombardref07_All.l0, if_pos g0, if_pos g1, e, k1, Option.bind_some, if_pos rfl, if_pos g2, ej, hw]
      exact k2
    · have hps : putS (L l[i]) = (S [], 2) := by unfold putS; rw [L_len, if_neg h4]
      have hno : allS l = (S [], 2) := by unfold allS; rw [not_ok l i hlt h4]; rfl
      rw [hno]
      refine Ev.from K1 (fun m hm => ?_)
      have k1 : lombardref07_Put.f m l[i] = some (S [], 2) := by rw [← hps]; exact h1 m (by omega)
      rw [lombardref07_All.l0, if_pos g0, if_pos g1, e, k1, Option.bind_some, if_neg (by decide), empty_S]
theorem RAll_ev (l : List ByteArray) (hb : laid l ≤ 140737488351232) : Ev (fun k => lombardref07_All.f k l) (allS l) :=
  RAll_l0 l hb l.length 0 (by omega) rfl

/-- All bytes of texts together. -/
def total (l : List ByteArray) : Nat := (l.map fun s => s.size).sum
theorem total_laid (l : List ByteArray) : laid l = total l + 12 * l.length := by
  induction l with
  | nil => rfl
  | cons s l ih => simp only [laid, total, List.map_cons, List.sum_cons, List.length_cons] at ih ⊢; omega
theorem total_snoc (l : List ByteArray) (i : Nat) (h : i < l.length) : total (l.take (i + 1)) = total (l.take i) + l[i].size := by
  rw [List.take_succ_eq_append_getElem h, total, total, List.map_append, List.sum_append, List.map_singleton, List.sum_singleton]

theorem Small_l0 (l : List ByteArray) (hs : ∀ s ∈ l, s.size ≤ 140737488351232) : ∀ (d i : Nat), i + d = 101 → i ≤ l.length → (i = 0 ∨ total (l.take (i - 1)) ≤ 20000) →
    ∃ b, Ev (fun k => lombardref07_Small.l0 k l (total (l.take i) : Int) (i : Int)) b ∧ (b = true → l.length ≤ 100 ∧ total l ≤ 20000) := by
  have hend : ∀ (i : Nat), i ≤ l.length → (l.length ≤ i ∨ 100 < i ∨ 20000 < total (l.take i)) → 
      ∃ b, Ev (fun k => lombardref07_Small.l0 k l (total (l.take i) : Int) (i : Int)) b ∧ (b = true → l.length ≤ 100 ∧ total l ≤ 20000) := by
    intro i hi hc
    refine ⟨decide (l.length ≤ 100) && decide (total (l.take i) ≤ 20000), ?_, ?_⟩
    · refine Ev.from 0 (fun m _ => ?_)
      have hx : (if (l.length : Int) ≤ 100 then some (decide ((total (l.take i) : Int) ≤ 20000)) else some false) = some (decide (l.length ≤ 100) && decide (total (l.take i) ≤ 20000)) := by
        by_cases h1 : l.length ≤ 100
        · rw [if_pos (by omega), decide_eq_true h1, Bool.true_and]
          congr 1
          rw [Bool.eq_iff_iff, decide_eq_true_iff, decide_eq_true_iff]; omega
        · rw [if_neg (by omega), decide_eq_false h1, Bool.false_and]
      rw [lombardref07_Small.l0]
      by_cases c1 : (i : Int) < (l.length : Int)
      · rw [if_pos c1]
        by_cases c2 : (i : Int) ≤ 100
        · rw [if_pos c2, if_neg (by omega), hx]
        · rw [if_neg c2, hx]
      · rw [if_neg c1, hx]
    · intro hb
      rw [Bool.and_eq_true, decide_eq_true_eq, decide_eq_true_eq] at hb
      refine ⟨hb.1, ?_⟩
      have : i = l.length := by omega
      rw [this, List.take_length] at hb
      exact hb.2
  intro d
  induction d with
  | zero => intro i h hi _; exact hend i hi (by omega)
  | succ d ih =>
    intro i h hi hp
    by_cases c1 : i < l.length
    · by_cases c2 : total (l.take i) ≤ 20000
      · obtain ⟨b, hb, hbb⟩ := ih (i + 1) (by omega) (by omega) (.inr (by simpa using c2))
        refine ⟨b, ?_, hbb⟩
        have hsz := hs l[i] (List.getElem_mem c1)
        have e : rdOf ByteArray.empty l (i : Int) = l[i] := by
          unfold rdOf
          rw [Int.toNat_natCast, List.getD_eq_getElem?_getD, List.getElem?_eq_getElem c1, Option.getD_some]
        have hw : wrap64 ((i : Int) + 1) = ((i + 1 : Nat) : Int) := by rw [w64 (by omega) (by omega)]; omega
        have hw2 : wrap64 ((total (l.take i) : Int) + (l[i].size : Int)) = (total (l.take (i + 1)) : Int) := by rw [w64 (by omega) (by omega), total_snoc l i c1]; omega
        refine Ev.step (fun k => ?_) hb
        rw [lombardref07_Small.l0, if_pos (by omega), if_pos (by omega), if_pos (by omega), if_pos (by omega), e, hw, hw2]
      · exact hend i hi (by omega)
    · exact hend i hi (by omega)
theorem Small_ev (l : List ByteArray) (hs : ∀ s ∈ l, s.size ≤ 140737488351232) : ∃ b, Ev (fun k => lombardref07_Small.f k l) b ∧ (b = true → laid l ≤ 21200) := by
  obtain ⟨b, h1, h2⟩ := Small_l0 l hs 101 0 rfl (by omega) (.inl rfl)
  refine ⟨b, h1, fun hb => ?_⟩
  have := h2 hb
  rw [total_laid]; omega

theorem FSize_eq (s : ByteArray) (h : s.size ≤ 140737488351232) : F.frame_Size.f s = some ((s.size : Int) + 12) := by
  unfold F.frame_Size.f
  rw [w64 (i := 8 + (s.size : Int)) (by omega) (by omega), w64 (by omega) (by omega)]
  congr 1; omega

theorem FramePuts_ev (s : ByteArray) (l : List ByteArray) (hs : ∀ s ∈ l, s.size ≤ 140737488351232) : Ev (fun k => G.lombardlaw07_FramePuts.f k s l) true := by
  obtain ⟨KA, hA⟩ := awake_end
  have hout : Ev (fun k => G.lombardlaw07_FramePuts.j0 k s l true) true := by
    refine Ev.from KA (fun m hm => ?_)
    rw [G.lombardlaw07_FramePuts.j0, if_pos rfl]
    exact hA m hm
  unfold G.lombardlaw07_FramePuts.f
  by_cases h : (s.size : Int) > 9000
  · refine Ev.congr (fun k => ?_) hout
    rw [if_pos h]
  · obtain ⟨b, hb, hbb⟩ := Small_ev l hs
    cases b with
    | false =>
      obtain ⟨K1, h1⟩ := hb
      obtain ⟨K2, h2⟩ := hout
      refine ⟨max K1 K2, fun k hk => ?_⟩
      have k1 : F.lombardref07_Small.f k l = some false := h1 k (by omega)
      show (if _ then _ else _) = _
      rw [if_neg h, k1, Option.bind_some]
      exact h2 k (by omega)
    | true =>
      have hl := hbb rfl
      obtain ⟨K0, h0⟩ := hb
      obtain ⟨K1, h1⟩ := Put_ev s (by omega)
      obtain ⟨K2, h2⟩ := RPut_ev s (by omega)
      obtain ⟨K3, h3⟩ := RAll_ev l (by omega)
      obtain ⟨K4, h4⟩ := Sum_ev s (by omega)
      obtain ⟨K5, h5⟩ := RSum_ev s (by omega)
      refine Ev.from (max KA (max K0 (max K1 (max K2 (max K3 (max K4 K5)))))) (fun m hm => ?_)
      have k0 : F.lombardref07_Small.f (m + 1) l = some true := h0 (m + 1) (by omega)
      have k1 : F.frame_Put.f m s = some (putS (L s)) := h1 m (by omega)
      have k2 : F.lombardref07_Put.f m s = some (putS (L s)) := h2 m (by omega)
      have k3 : F.lombardref07_All.f m l = some (allS l) := h3 m (by omega)
      have k4 : F.frame_Sum.f m s = some (sumN (L s) : Int) := h4 m (by omega)
      have k5 : F.lombardref07_Sum.f m s = some (sumN (L s) : Int) := h5 m (by omega)
      have k6 : frame_All.f l = some (allS l) := by unfold frame_All.f; rw [if_pos (by omega)]
      have k7 := FSize_eq s (by omega)
      have g : (s.size : Int) + 12 = wrap64 ((s.size : Int) + 12) := by rw [w64 (by omega) (by omega)]
      rw [if_neg h, k0, Option.bind_some, Bool.not_true, G.lombardlaw07_FramePuts.j0, if_neg (by decide), k1, Option.bind_some, k2, Option.bind_some, k6, Option.bind_some, k3, Option.bind_some, k4, Option.bind_some, k5, Option.bind_some, if_pos rfl, if_pos rfl, if_pos rfl, if_pos rfl, if_pos rfl, k7, Option.bind_some, if_pos g]
      exact hA m (by omega)

theorem FrameBack_ev (l : List ByteArray) (hs : ∀ s ∈ l, s.size ≤ 140737488351232) : Ev (fun k => G.lombardlaw07_FrameBack.f k l) true := by
  obtain ⟨KA, hA⟩ := awake_end
  unfold G.lombardlaw07_FrameBack.f
  obtain ⟨b, hb, hbb⟩ := Small_ev l hs
  obtain ⟨K0, h0⟩ := hb
  cases b with
  | false =>
    refine ⟨max KA K0, fun k hk => ?_⟩
    have k0 : F.lombardref07_Small.f k l = some false := h0 k (by omega)
    show Option.bind _ _ = _
    rw [k0, Option.bind_some, if_neg (by decide)]
    exact hA k (by omega)
  | true =>
    have hl := hbb rfl
    have k6 : frame_All.f l = some (allS l) := by unfold frame_All.f; rw [if_pos (by omega)]
    by_cases hok : okAll l = true
    · have e : allS l = (S (flat l), 0) := by unfold allS; rw [if_pos hok]
      have hfl := flat_len l
      obtain ⟨K1, h1⟩ := Read_ev (S (flat l)) (by rw [S_size, hfl]; omega)
      rw [L_S, readL_flat l hok] at h1
      have hll := laid_len l
      obtain ⟨K2, h2⟩ := Texts_ev l l (by omega)
      refine ⟨max KA (max K0 (max K1 K2)), fun k hk => ?_⟩
      have k0 : F.lombardref07_Small.f k l = some true := h0 k (by omega)
      have k1 : F.frame_Read.f k (S (flat l)) = some (l, ((flat l).length : Int), 0) := h1 k (by omega)
      have k2 : F.lombardref07_Texts.f k l l = some true := by
        have := h2 k (by omega)
        rw [decide_eq_true rfl] at this
        exact this
      have g : ((flat l).length : Int) = ((S (flat l)).size : Int) := by rw [S_size]
      show Option.bind _ _ = _
      rw [k0, Option.bind_some, if_pos rfl, k6, e, Option.bind_some, if_pos rfl, k1, Option.bind_some, if_pos rfl, if_pos g, k2, Option.bind_some, if_pos rfl]
      exact hA k (by omega)
    · have e : allS l = (S [], 2) := by unfold allS; rw [if_neg hok]
      refine ⟨max KA K0, fun k hk => ?_⟩
      have k0 : F.lombardref07_Small.f k l = some true := h0 k (by omega)
      show Option.bind _ _ = _
      rw [k0, Option.bind_some, if_pos rfl, k6, e, Option.bind_some, if_neg (by decide), if_pos (toList_S [])]
      exact hA k (by omega)

end Go.Proofs.Ytejfdiiennnjjaa.Facts
