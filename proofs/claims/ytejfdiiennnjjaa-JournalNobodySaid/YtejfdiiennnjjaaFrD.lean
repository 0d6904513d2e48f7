/- What Read, of the program and of the document, comes to for every text; the comparison of lists of texts; the chapter's examples; FrameReads. -/
import Derived.Test.YtejfdiiennnjjaaFrC
namespace Go.Proofs.Ytejfdiiennnjjaa.Facts
open Go.RowKit Go.Proofs.Ytejfdiiennnjjaa.F Go.Proofs.YtejfdiiennnjjaaW.PrintWords Go.Proofs.YtejfdiiennnjjaaW.PrintLast Go.Proofs.YtejfdiiennnjjaaW.PrintMore
set_option linter.unusedVariables false

theorem nextL_ok (l : List UInt8) (h : (nextL l).2.2 = 0) : ∃ n : Nat, (nextL l).2.1 = (n : Int) ∧ 12 ≤ n ∧ n ≤ l.length := by
  revert h
  unfold nextL
  split
  · split
    · intro h; exact absurd h (by simp)
    · split
      · intro h; exact absurd h (by simp)
      · split
        · intro h; exact absurd h (by simp)
        · split
          · intro _; exact ⟨numL l + 12, rfl, by omega, by omega⟩
          · intro h; exact absurd h (by simp)
  · intro h; exact absurd h (by simp)
theorem nextL_no (l : List UInt8) (h : ¬ (nextL l).2.2 = 0) : (nextL l).1 = S [] ∧ (nextL l).2.1 = 0 ∧ ((nextL l).2.2 = 14 ∨ (nextL l).2.2 = 15) := by
  revert h
  unfold nextL
  split
  · split
    · intro _; exact ⟨rfl, rfl, .inl rfl⟩
    · split
      · intro _; exact ⟨rfl, rfl, .inr rfl⟩
      · split
        · intro _; exact ⟨rfl, rfl, .inl rfl⟩
        · split
          · intro h; exact absurd rfl h
          · intro _; exact ⟨rfl, rfl, .inr rfl⟩
  · intro _; exact ⟨rfl, rfl, .inr rfl⟩

/-- Records as far as they are whole, where the last one ends, and what is wrong there. -/
def readF : Nat → List UInt8 → List ByteArray × Nat × Int
  | 0, _ => ([], 0, 0)
  | f + 1, l => if l = [] then ([], 0, 0) else
      if (nextL l).2.2 = 0 then ((nextL l).1 :: (readF f (l.drop (nextL l).2.1.toNat)).1, (nextL l).2.1.toNat + (readF f (l.drop (nextL l).2.1.toNat)).2.1, (readF f (l.drop (nextL l).2.1.toNat)).2.2)
      else ([], 0, (nextL l).2.2)
def readL (l : List UInt8) : List ByteArray × Nat × Int := readF (l.length + 1) l
theorem readF_fuel : ∀ (f g : Nat) (l : List UInt8), l.length < f → l.length < g → readF f l = readF g l := by
  intro f
  induction f with
  | zero => intro g l h; omega
  | succ f ih =>
    intro g l h hg
    obtain ⟨g, rfl⟩ : ∃ m, g = m + 1 := ⟨g - 1, by omega⟩
    unfold readF
    by_cases h0 : l = []
    · rw [if_pos h0, if_pos h0]
    · rw [if_neg h0, if_neg h0]
      by_cases h1 : (nextL l).2.2 = 0
      · obtain ⟨n, hn, h12, hl⟩ := nextL_ok l h1
        rw [if_pos h1, if_pos h1, ih g _ (by rw [hn, List.length_drop]; omega) (by rw [hn, List.length_drop]; omega)]
      · rw [if_neg h1, if_neg h1]
theorem readL_eq (l : List UInt8) : readL l = if l = [] then ([], 0, 0) else
      if (nextL l).2.2 = 0 then ((nextL l).1 :: (readL (l.drop (nextL l).2.1.toNat)).1, (nextL l).2.1.toNat + (readL (l.drop (nextL l).2.1.toNat)).2.1, (readL (l.drop (nextL l).2.1.toNat)).2.2)
      else ([], 0, (nextL l).2.2) := by
  by_cases h0 : l = []
  · rw [if_pos h0]; unfold readL readF; rw [if_pos h0]
  · rw [if_neg h0]
    by_cases h1 : (nextL l).2.2 = 0
    · obtain ⟨n, hn, h12, hl⟩ := nextL_ok l h1
      rw [if_pos h1]
      have e : readF l.length (l.drop (nextL l).2.1.toNat) = readL (l.drop (nextL l).2.1.toNat) := readF_fuel _ _ _ (by rw [hn, List.length_drop]; omega) (by omega)
      rw [← e]
      conv => lhs; unfold readL readF
      rw [if_neg h0, if_pos h1]
    · rw [if_neg h1]
      unfold readL readF
      rw [if_neg h0, if_neg h1]

theorem Read_l0 (s : ByteArray) (hs : s.size ≤ 1099511627776) : ∀ (f at' : Nat) (acc : List ByteArray), s.size - at' < f → at' ≤ s.size → acc.length ≤ at' →
    Ev (fun k => frame_Read.l0 k s acc (at' : Int)) (acc ++ (readL ((L s).drop at')).1, ((at' + (readL ((L s).drop at')).2.1 : Nat) : Int), (readL ((L s).drop at')).2.2) := by
  intro f
  induction f with
  | zero => intro at' acc h; omega
  | succ f ih =>
    intro at' acc h hat hacc
    by_cases h0 : (at' : Int) < (s.size : Int)
    · have hne : ¬ (L s).drop at' = [] := fun e => by
        have := List.drop_eq_nil_iff.1 e
        rw [L_len] at this; omega
      have hx : L (s.extract at' s.size) = (L s).drop at' := by rw [L_extract, ← L_len, List.take_length]
      have hlen : ((L s).drop at').length = s.size - at' := by rw [List.length_drop, L_len]
      have hN := Next_ev (s.extract at' s.size) (by rw [← L_len, hx, hlen]; omega)
      rw [hx] at hN
      rw [readL_eq, if_neg hne]
      by_cases h1 : (nextL ((L s).drop at')).2.2 = 0
      · obtain ⟨n, hn, h12, hl⟩ := nextL_ok _ h1
        rw [hlen] at hl
        have ih' := ih (at' + n) (acc ++ [(nextL ((L s).drop at')).1]) (by omega) (by omega) (by rw [List.length_append]; simp; omega)
        have ea : wrap64 ((at' : Int) + (n : Int)) = ((at' + n : Nat) : Int) := by rw [w64 (by omega) (by omega)]; omega
        have g0 : (0 : Int) ≤ (at' : Int) := by omega
        have g1 : (at' : Int) ≤ (s.size : Int) := by omega
        have g2 : acc.length < 8796093022208 := by omega
        rw [if_pos h1, hn, Int.toNat_natCast]
        rw [List.append_assoc, List.singleton_append, Nat.add_assoc] at ih'
        rw [List.drop_drop]
        obtain ⟨K1, hK1⟩ := hN
        obtain ⟨K2, hK2⟩ := ih'
        refine Ev.from (max K1 K2) (fun m hm => ?_)
        have k1 : frame_Next.f m (s.extract at' s.size) = some (nextL ((L s).drop at')) := hK1 m (by omega)
        have k2 := hK2 m (by omega)
        rw [frame_Read.l0, if_pos h0, if_pos g0, if_pos g1, Int.toNat_natCast, k1, Option.bind_some, if_pos h1, if_pos g2, hn, ea]
        exact k2
      · obtain ⟨e1, e2, e3⟩ := nextL_no _ h1
        have g0 : (0 : Int) ≤ (at' : Int) := by omega
        have g1 : (at' : Int) ≤ (s.size : Int) := by omega
        rw [if_neg h1, List.append_nil, Nat.add_zero]
        obtain ⟨K1, hK1⟩ := hN
        refine Ev.from K1 (fun m hm => ?_)
        have k1 : frame_Next.f m (s.extract at' s.size) = some (nextL ((L s).drop at')) := hK1 m (by omega)
        rw [frame_Read.l0, if_pos h0, if_pos g0, if_pos g1, Int.toNat_natCast, k1, Option.bind_some, if_neg h1]
    · have hnil : (L s).drop at' = [] := List.drop_eq_nil_of_le (by rw [L_len]; omega)
      rw [readL_eq, if_pos hnil, List.append_nil, Nat.add_zero]
      refine Ev.from 0 (fun m _ => ?_)
      rw [frame_Read.l0, if_neg h0]

theorem Read_ev (s : ByteArray) (hs : s.size ≤ 1099511627776) : Ev (fun k => frame_Read.f k s) ((readL (L s)).1, ((readL (L s)).2.1 : Int), (readL (L s)).2.2) := by
  have := Read_l0 s hs (s.size + 1) 0 [] (by omega) (by omega) (by simp)
  rw [List.drop_zero, List.nil_append, Nat.zero_add] at this
  exact this

theorem RRead_l0 (s : ByteArray) (hs : s.size ≤ 1099511627776) : ∀ (f at' : Nat) (acc : List ByteArray), s.size - at' < f → at' ≤ s.size → acc.length ≤ at' →
    Ev (fun k => lombardref07_Read.l0 k s acc (at' : Int)) (acc ++ (readL ((L s).drop at')).1, ((at' + (readL ((L s).drop at')).2.1 : Nat) : Int), (readL ((L s).drop at')).2.2) := by
  intro f
  induction f with
  | zero => intro at' acc h; omega
  | succ f ih =>
    intro at' acc h hat hacc
    by_cases h0 : (at' : Int) < (s.size : Int)
    · have hne : ¬ (L s).drop at' = [] := fun e => by
        have := List.drop_eq_nil_iff.1 e
        rw [L_len] at this; omega
      have hx : L (s.extract at' s.size) = (L s).drop at' := by rw [L_extract, ← L_len, List.take_length]
      have hlen : ((L s).drop at').length = s.size - at' := by rw [List.length_drop, L_len]
      have hN := RNext_ev (s.extract at' s.size) (by rw [← L_len, hx, hlen]; omega)
      rw [hx] at hN
      rw [readL_eq, if_neg hne]
      by_cases h1 : (nextL ((L s).drop at')).2.2 = 0
      · obtain ⟨n, hn, h12, hl⟩ := nextL_ok _ h1
        rw [hlen] at hl
        have ih' := ih (at' + n) (acc ++ [(nextL ((L s).drop at')).1]) (by omega) (by omega) (by rw [List.length_append]; simp; omega)
        have ea : wrap64 ((at' : Int) + (n : Int)) = ((at' + n : Nat) : Int) := by rw [w64 (by omega) (by omega)]; omega
        have g0 : (0 : Int) ≤ (at' : Int) := by omega
        have g1 : (at' : Int) ≤ (s.size : Int) := by omega
        have g2 : acc.length < 8796093022208 := by omega
        rw [if_pos h1, hn, Int.toNat_natCast]
        rw [List.append_assoc, List.singleton_append, Nat.add_assoc] at ih'
        rw [List.drop_drop]
        obtain ⟨K1, hK1⟩ := hN
        obtain ⟨K2, hK2⟩ := ih'
        refine Ev.from (max K1 K2) (fun m hm => ?_)
        have k1 : lombardref07_Next.f m (s.extract at' s.size) = some (nextL ((L s).drop at')) := hK1 m (by omega)
        have k2 := hK2 m (by omega)
        rw [lombardref07_Read.l0, if_pos h0, if_pos g0, if_pos g1, Int.toNat_natCast, k1, Option.bind_some, if_pos h1, if_pos g2, hn, ea]
        exact k2
      · obtain ⟨e1, e2, e3⟩ := nextL_no _ h1
        have g0 : (0 : Int) ≤ (at' : Int) := by omega
        have g1 : (at' : Int) ≤ (s.size : Int) := by omega
        rw [if_neg h1, List.append_nil, Nat.add_zero]
        obtain ⟨K1, hK1⟩ := hN
        refine Ev.from K1 (fun m hm => ?_)
        have k1 : lombardref07_Next.f m (s.extract at' s.size) = some (nextL ((L s).drop at')) := hK1 m (by omega)
        rw [lombardref07_Read.l0, if_pos h0, if_pos g0, if_pos g1, Int.toNat_natCast, k1, Option.bind_some, if_neg h1]
    · have hnil : (L s).drop at' = [] := List.drop_eq_nil_of_le (by rw [L_len]; omega)
      rw [readL_eq, if_pos hnil, List.append_nil, Nat.add_zero]
      refine Ev.from 0 (fun m _ => ?_)
      rw [lombardref07_Read.l0, if_neg h0]

theorem RRead_ev (s : ByteArray) (hs : s.size ≤ 1099511627776) : Ev (fun k => lombardref07_Read.f k s) ((readL (L s)).1, ((readL (L s)).2.1 : Int), (readL (L s)).2.2) := by
  have := RRead_l0 s hs (s.size + 1) 0 [] (by omega) (by omega) (by simp)
  rw [List.drop_zero, List.nil_append, Nat.zero_add] at this
  exact this

theorem Texts_l0 (a b : List ByteArray) (hl : a.length = b.length) (ha : a.length ≤ 140737488351232) : ∀ (d i : Nat), i + d = a.length →
    Ev (fun k => lombardref07_Texts.l0 k a b (i : Int)) (decide (a.drop i = b.drop i)) := by
  intro d
  induction d with
  | zero =>
    intro i h
    rw [List.drop_eq_nil_of_le (by omega), List.drop_eq_nil_of_le (by omega), decide_eq_true rfl]
    refine Ev.from 0 (fun m _ => ?_)
    rw [lombardref07_Texts.l0, if_neg (by omega)]
  | succ d ih =>
    intro i h
    have h1 : i < a.length := by omega
    have h2 : i < b.length := by omega
    have ea : rdOf ByteArray.empty a (i : Int) = a[i] := by
      unfold rdOf
      rw [Int.toNat_natCast, List.getD_eq_getElem?_getD, List.getElem?_eq_getElem h1, Option.getD_some]
    have eb : rdOf ByteArray.empty b (i : Int) = b[i] := by
      unfold rdOf
      rw [Int.toNat_natCast, List.getD_eq_getElem?_getD, List.getElem?_eq_getElem h2, Option.getD_some]
    have hw : wrap64 ((i : Int) + 1) = ((i + 1 : Nat) : Int) := by rw [w64 (by omega) (by omega)]; omega
    have g0 : (i : Int) < (a.length : Int) := by omega
    have g1 : (0 : Int) ≤ (i : Int) := by omega
    have g2 : (i : Int) < (b.length : Int) := by omega
    have ih' := ih (i + 1) (by omega)
    rw [List.drop_eq_getElem_cons h1, List.drop_eq_getElem_cons h2]
    by_cases he : a[i] = b[i]
    · have e : (decide (a[i] :: a.drop (i + 1) = b[i] :: b.drop (i + 1))) = decide (a.drop (i + 1) = b.drop (i + 1)) := by
        rw [Bool.eq_iff_iff, decide_eq_true_iff, decide_eq_true_iff]
        exact ⟨fun h => (List.cons.inj h).2, fun h => by rw [he, h]⟩
      rw [e]
      refine Ev.step (fun k => ?_) ih'
      rw [lombardref07_Texts.l0, if_pos g0, if_pos g1, if_pos g2, ea, eb, he, if_pos rfl, hw]
    · have e : (decide (a[i] :: a.drop (i + 1) = b[i] :: b.drop (i + 1))) = false := by
        apply decide_eq_false; intro h; injection h with h _; exact he h
      rw [e]
      refine Ev.from 0 (fun m _ => ?_)
      rw [lombardref07_Texts.l0, if_pos g0, if_pos g1, if_pos g2, ea, eb, toList_L, toList_L, if_neg (fun h => he (L_ext h))]
theorem Texts_ev (a b : List ByteArray) (ha : a.length ≤ 140737488351232) : Ev (fun k => lombardref07_Texts.f k a b) (decide (a = b)) := by
  unfold lombardref07_Texts.f
  by_cases hl : a.length = b.length
  · have := Texts_l0 a b hl ha a.length 0 (by omega)
    refine Ev.congr (f := fun k => lombardref07_Texts.l0 k a b 0) (fun k => by rw [if_pos (by omega)]) ?_
    exact this
  · rw [decide_eq_false (fun h => hl (by rw [h]))]
    refine Ev.congr (f := fun _ => some false) (fun k => by rw [if_neg (by omega)]) (Ev.now _)

theorem awake_ev : Ev (fun k => lombardlaw07_awake.f k) true := by
  obtain ⟨K1, hK1⟩ := Put_ev (S [97, 98]) (by rw [S_size]; simp)
  obtain ⟨K2, hK2⟩ := Sum_ev (S [49, 50, 51, 52, 53, 54, 55, 56, 57]) (by rw [S_size]; simp)
  have e1 : putS (L (S [97, 98])) = (S (putL [97, 98]), 0) := by rw [L_S]; rfl
  have e2 : sumN (L (S [49, 50, 51, 52, 53, 54, 55, 56, 57])) = 3421780262 := by rw [L_S]; decide +kernel
  have e3 : (putL [97, 98]).length = 14 := by rw [putL_len]; rfl
  have e4 : (putL [97, 98]).take 10 = [2, 0, 0, 0, 253, 255, 255, 255, 97, 98] := by decide +kernel
  refine ⟨max K1 K2, fun k hk => ?_⟩
  have k1 : frame_Put.f k (⟨#[97, 98]⟩ : ByteArray) = some (S (putL [97, 98]), 0) := by rw [← e1]; exact hK1 k (by omega)
  have k2 : frame_Sum.f k (⟨#[49, 50, 51, 52, 53, 54, 55, 56, 57]⟩ : ByteArray) = some 3421780262 := by
    have := hK2 k (by omega)
    rw [e2] at this
    exact this
  have g14 : ((S (putL [97, 98])).size : Int) = 14 := by rw [S_size, e3]; rfl
  have g10 : (10 : Int) ≤ ((S (putL [97, 98])).size : Int) := by rw [g14]; omega
  show lombardlaw07_awake.f k = some true
  unfold lombardlaw07_awake.f
  rw [k1, Option.bind_some, if_pos rfl, k2, Option.bind_some, if_pos rfl, if_pos g14, if_pos (by omega), if_pos g10, toList_L, L_extract, L_S, List.drop_zero, e4]
  rfl
theorem awake_end : Ev (fun k => (lombardlaw07_awake.f k).bind fun t => some t) true := by
  obtain ⟨K, hK⟩ := awake_ev
  refine ⟨K, fun k hk => ?_⟩
  have := hK k hk
  show (lombardlaw07_awake.f k).bind _ = _
  rw [show lombardlaw07_awake.f k = some true from this]; rfl

theorem readF_len : ∀ (f : Nat) (l : List UInt8), (readF f l).1.length ≤ l.length := by
  intro f
  induction f with
  | zero => intro l; simp [readF]
  | succ f ih =>
    intro l
    unfold readF
    by_cases h0 : l = []
    · rw [if_pos h0]; simp
    · rw [if_neg h0]
      by_cases h1 : (nextL l).2.2 = 0
      · obtain ⟨n, hn, h12, hl⟩ := nextL_ok l h1
        rw [if_pos h1, hn, Int.toNat_natCast]
        have := ih (l.drop n)
        rw [List.length_drop] at this
        simp only [List.length_cons]
        omega
      · rw [if_neg h1]; simp

theorem FrameReads_ev (s : ByteArray) : Ev (fun k => lombardlaw07_FrameReads.f k s) true := by
  obtain ⟨KA, hA⟩ := awake_end
  by_cases h : (s.size : Int) > 9000
  · refine ⟨KA, fun k hk => ?_⟩
    show lombardlaw07_FrameReads.f k s = _
    unfold lombardlaw07_FrameReads.f
    rw [if_pos h]
    exact hA k hk
  · obtain ⟨K1, h1⟩ := Next_ev s (by omega)
    obtain ⟨K2, h2⟩ := RNext_ev s (by omega)
    obtain ⟨K3, h3⟩ := Read_ev s (by omega)
    obtain ⟨K4, h4⟩ := RRead_ev s (by omega)
    have hl := readF_len (s.size + 1) (L s)
    obtain ⟨K5, h5⟩ := Texts_ev (readL (L s)).1 (readL (L s)).1 (by unfold readL; rw [L_len] at hl ⊢; omega)
    refine ⟨max KA (max K1 (max K2 (max K3 (max K4 K5)))), fun k hk => ?_⟩
    have k1 : frame_Next.f k s = some (nextL (L s)) := h1 k (by omega)
    have k2 : lombardref07_Next.f k s = some (nextL (L s)) := h2 k (by omega)
    have k3 : frame_Read.f k s = some ((readL (L s)).1, ((readL (L s)).2.1 : Int), (readL (L s)).2.2) := h3 k (by omega)
    have k4 : lombardref07_Read.f k s = some ((readL (L s)).1, ((readL (L s)).2.1 : Int), (readL (L s)).2.2) := h4 k (by omega)
    have k5 : lombardref07_Texts.f k (readL (L s)).1 (readL (L s)).1 = some true := by
      have := h5 k (by omega)
      rw [decide_eq_true rfl] at this
      exact this
    show lombardlaw07_FrameReads.f k s = _
    unfold lombardlaw07_FrameReads.f
    rw [if_neg h, k1, Option.bind_some, k2, Option.bind_some, k3, Option.bind_some, k4, Option.bind_some, if_pos rfl, if_pos rfl, if_pos rfl, k5, Option.bind_some, if_pos rfl, if_pos rfl, if_pos rfl]
    exact hA k (by omega)

end Go.Proofs.Ytejfdiiennnjjaa.Facts
