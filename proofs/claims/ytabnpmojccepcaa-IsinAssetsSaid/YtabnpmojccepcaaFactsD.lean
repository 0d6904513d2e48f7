/- Land, Currency and Asset; and that each law's function, as printed, comes to true. -/
import Derived.Test.YtabnpmojccepcaaFactsC
namespace Go.Proofs.Ytabnpmojccepcaa.Facts
open Go.RowKit Go.Proofs.Ytabnpmojccepcaa.I Go.Proofs.YtabnpmojccepcaaW.PrintWords Go.Proofs.YtabnpmojccepcaaW.PrintLast Go.Proofs.YtabnpmojccepcaaW.PrintMore Go.Proofs.Ytabnpmojccepcaa
set_option linter.unusedVariables false

/-- Signs without zeros ahead. -/
def strip : List UInt8 → List UInt8
  | [] => []
  | c :: l => if c = 48 then strip l else c :: l
def lnd (l : List UInt8) : ByteArray × ByteArray × Int :=
  if chk l = 0 then (S (l.take 2), S (strip ((l.take 11).drop 2)), 0) else (S [], S [], chk l)
theorem chk0_len (l : List UInt8) (h : chk l = 0) : l.length = 12 := by
  by_cases h' : l.length = 12
  · exact h'
  · rw [chk_ne l h'] at h; omega
theorem c48 (c : UInt8) : (c.toNat : Int) = 48 ↔ c = 48 := by
  constructor
  · intro h
    apply UInt8.toNat_inj.1
    show c.toNat = 48
    omega
  · rintro rfl; rfl

theorem Land_l0 (s : ByteArray) (hs : 2 ≤ s.size) : ∀ (r : List UInt8) (t : ByteArray), L t = r →
    Ev (fun k => isin_Land.l0 k s t) (S ((L s).take 2), S (strip r), 0) := by
  have e2 : s.extract 0 2 = S ((L s).take 2) := eq_S (by rw [L_extract]; simp)
  intro r
  induction r with
  | nil =>
    intro t ht
    have et := eq_S ht
    refine Ev.step (f := fun _ => some (S ((L s).take 2), S [], 0)) (fun k => ?_) (Ev.now _)
    rw [isin_Land.l0, if_pos (by rw [toList_L, ht]), if_pos (by omega), if_pos (by omega), e2, et]
  | cons c r ih =>
    intro t ht
    have hz : t.size = r.length + 1 := by rw [← L_len, ht]; rfl
    have hb : bt t 0 = (c.toNat : Int) := by
      have := (bt_L' t 0 c r (by simpa using ht)).2.1
      exact this
    have et := eq_S ht
    unfold strip
    by_cases hc : c = 48
    · rw [if_pos hc]
      refine Ev.step (f := fun k => isin_Land.l0 k s (t.extract 1 t.size)) (fun k => ?_) (ih _ ?_)
      · rw [isin_Land.l0, if_neg (by rw [toList_L, ht]; simp), if_pos (by omega), hb, if_pos ((c48 c).2 hc), if_pos (by omega)]
      · rw [L_extract, ← L_len, List.take_length, ht]; rfl
    · rw [if_neg hc]
      refine Ev.step (f := fun _ => some (S ((L s).take 2), S (c :: r), 0)) (fun k => ?_) (Ev.now _)
      rw [isin_Land.l0, if_neg (by rw [toList_L, ht]; simp), if_pos (by omega), hb, if_neg (fun h => hc ((c48 c).1 h)), if_pos (by omega), if_pos (by omega), e2, et]

theorem Land_ev (s : ByteArray) : Ev (fun k => isin_Land.f k s) (lnd (L s)) := by
  unfold isin_Land.f lnd
  refine Ev.bind (Check_ev s) ?_
  by_cases h : chk (L s) = 0
  · have hl := chk0_len _ h
    rw [L_len] at hl
    simp only [h, if_true]
    refine Ev.congr (f := fun k => isin_Land.l0 k s (s.extract 2 11)) (fun k => ?_) ?_
    · rw [if_pos (by omega), if_pos (by omega)]
    · exact Land_l0 s (by omega) _ _ (by rw [L_extract])
  · simp only [h, if_false]
    exact Ev.now _

theorem RLand_l0 (s : ByteArray) (hs : s.size = 12) : ∀ (r : List UInt8) (i : Nat), ((L s).take 11).drop i = r → 2 ≤ i → i ≤ 11 →
    Ev (fun k => lombardref05_Land.l0 k s (i : Int)) (S ((L s).take 2), S (strip r), 0) := by
  have e2 : s.extract 0 2 = S ((L s).take 2) := eq_S (by rw [L_extract]; simp)
  have hl : ((L s).take 11).length = 11 := by rw [List.length_take, L_len]; omega
  intro r
  induction r with
  | nil =>
    intro i hi h2 h11
    have h' : 11 ≤ i := by have := List.drop_eq_nil_iff.1 hi; omega
    have e3 : s.extract i 11 = S [] := eq_S (by rw [L_extract, hi])
    refine Ev.step (f := fun _ => some (S ((L s).take 2), S [], 0)) (fun k => ?_) (Ev.now _)
    rw [lombardref05_Land.l0, if_neg (by omega), if_pos (by omega), if_pos (by omega), if_pos (by omega), if_pos (by omega), if_pos (by omega), Int.toNat_natCast, e2, e3]
  | cons c r ih =>
    intro i hi h2 h11
    have hlt : i < ((L s).take 11).length := by
      rcases Nat.lt_or_ge i ((L s).take 11).length with h' | h'
      · exact h'
      · rw [List.drop_eq_nil_of_le h'] at hi; cases hi
    have hi0 := hi
    rw [List.drop_eq_getElem_cons hlt] at hi
    injection hi with e1 er
    have hb : bt s (i : Int) = (c.toNat : Int) := by
      rw [bt_L s i (by rw [L_len]; omega), ← e1, List.getElem_take]
    have e3 : s.extract i 11 = S (c :: r) := eq_S (by rw [L_extract, hi0])
    have hw : wrap64 ((i : Int) + 1) = ((i + 1 : Nat) : Int) := by rw [w64 (by omega) (by omega)]; push_cast; rfl
    unfold strip
    by_cases hc : c = 48
    · rw [if_pos hc]
      refine Ev.step (f := fun k => lombardref05_Land.l0 k s ((i + 1 : Nat) : Int)) (fun k => ?_) (ih _ er (by omega) (by omega))
      rw [lombardref05_Land.l0, if_pos (by omega), if_pos (by omega), if_pos (by omega), hb, if_pos ((c48 c).2 hc), hw]
    · rw [if_neg hc]
      refine Ev.step (f := fun _ => some (S ((L s).take 2), S (c :: r), 0)) (fun k => ?_) (Ev.now _)
      rw [lombardref05_Land.l0, if_pos (by omega), if_pos (by omega), if_pos (by omega), hb, if_neg (fun h => hc ((c48 c).1 h)), if_pos (by omega), if_pos (by omega), if_pos (by omega), if_pos (by omega), Int.toNat_natCast, e2, e3]

theorem RLand_ev (s : ByteArray) : Ev (fun k => lombardref05_Land.f k s) (lnd (L s)) := by
  unfold lombardref05_Land.f lnd
  refine Ev.bind (RCheck_ev s) ?_
  by_cases h : chk (L s) = 0
  · have hl := chk0_len _ h
    rw [L_len] at hl
    simp only [h, if_true]
    exact RLand_l0 s hl _ 2 rfl (by omega) (by omega)
  · simp only [h, if_false]
    refine Ev.bind (RCheck_ev s) ?_
    exact Ev.now _

theorem IsinDigits_ev (a b : ByteArray) (ha : a.size ≤ 1099511627776) : Ev (fun k => lombardlaw05_IsinDigits.f k a b) true := by
  unfold lombardlaw05_IsinDigits.f
  refine Ev.bind (Digit_ev a (by omega)) (Ev.bind (RDigit_ev a ha) ?_)
  simp only [if_true]
  refine Ev.bind (Check_ev b) (Ev.bind (RCheck_ev b) ?_)
  simp only [if_true]
  exact awake_end

theorem IsinMakes_ev (a b c : ByteArray) : Ev (fun k => lombardlaw05_IsinMakes.f k a b c) true := by
  unfold lombardlaw05_IsinMakes.f
  refine Ev.bind (Make_ev a b) (Ev.bind (RMake_ev a b) (Ev.bind (Land_ev c) (Ev.bind (RLand_ev c) ?_)))
  simp only [if_true]
  exact awake_end

theorem strip_zeros (n : Nat) (l : List UInt8) : strip (List.replicate n 48 ++ l) = strip l := by
  induction n with
  | zero => rfl
  | succ n ih => rw [List.replicate_succ, List.cons_append, strip, if_pos rfl, ih]

/-- What Make makes is a number; its land and its own signs are told again. -/
theorem mk_lnd (land own : List UInt8) (h : land.length = 2) (h9 : own.length ≤ 9) (hs : shp (pad land own) = true) :
    lnd (pad land own ++ [UInt8.ofNat (last (pad land own)).toNat]) = (S land, S (strip own), 0) ∧ chk (pad land own ++ [UInt8.ofNat (last (pad land own)).toNat]) = 0 := by
  have hp := pad_len land own h h9
  have hla := last_range (pad land own)
  have hx := ofNat_toNat (last (pad land own)) (by omega) (by omega)
  have ht : (pad land own ++ [UInt8.ofNat (last (pad land own)).toNat]).take 11 = pad land own := by
    rw [← hp, List.take_left]
  have hg : (pad land own ++ [UInt8.ofNat (last (pad land own)).toNat]).getD 11 0 = UInt8.ofNat (last (pad land own)).toNat := by
    rw [List.getD_eq_getElem?_getD, List.getElem?_append_right (by omega), hp]; rfl
  have hc : chk (pad land own ++ [UInt8.ofNat (last (pad land own)).toNat]) = 0 := by
    unfold chk
    rw [if_pos (by rw [List.length_append, hp]; rfl), hg, if_pos ((isD_iff _).2 (by omega)), ht, if_pos hs, if_pos hx]
  refine ⟨?_, hc⟩
  unfold lnd
  rw [if_pos hc, ht]
  have e1 : (pad land own ++ [UInt8.ofNat (last (pad land own)).toNat]).take 2 = land := by
    unfold pad
    rw [List.append_assoc, ← h, List.take_left]
  have e2 : (pad land own).drop 2 = List.replicate (9 - own.length) 48 ++ own := by
    unfold pad
    rw [← h, List.drop_left]
  rw [e1, e2, strip_zeros]

theorem Back_l0 (a x5 x7 x8 : ByteArray) (h5 : chk (L x5) = 0) (h7 : L x7 = L a) : ∀ (r : List UInt8) (b : ByteArray), L b = r → L x8 = strip r →
    Ev (fun k => lombardlaw05_IsinBack.l0 k a b x5 x7 x8 0) true := by
  have hC := Check_ev x5
  rw [h5] at hC
  intro r
  induction r with
  | nil =>
    intro b hb h8
    have hz : b.size = 0 := by rw [← L_len, hb]; rfl
    refine Ev.step (f := fun k => (isin_Check.f k x5).bind fun t => if t = 0 then (lombardlaw05_awake.f k).bind fun t => some t else some false) (fun k => ?_) (Ev.bind hC ?_)
    · rw [lombardlaw05_IsinBack.l0, if_neg (by omega), if_pos rfl, if_pos (by rw [toList_L, toList_L, h7]), if_pos (by rw [toList_L, toList_L, hb, h8]; rfl)]
    · simp only [if_true]; exact awake_end
  | cons c r ih =>
    intro b hb h8
    have hz : b.size = r.length + 1 := by rw [← L_len, hb]; rfl
    have hbt : bt b 0 = (c.toNat : Int) := (bt_L' b 0 c r (by simpa using hb)).2.1
    unfold strip at h8
    by_cases hc : c = 48
    · rw [if_pos hc] at h8
      refine Ev.step (f := fun k => lombardlaw05_IsinBack.l0 k a (b.extract 1 b.size) x5 x7 x8 0) (fun k => ?_) (ih _ ?_ h8)
      · rw [lombardlaw05_IsinBack.l0, if_pos (by omega), if_pos (by omega), hbt, if_pos ((c48 c).2 hc), if_pos (by omega)]
      · rw [L_extract, ← L_len, List.take_length, hb]; rfl
    · rw [if_neg hc] at h8
      refine Ev.step (f := fun k => (isin_Check.f k x5).bind fun t => if t = 0 then (lombardlaw05_awake.f k).bind fun t => some t else some false) (fun k => ?_) (Ev.bind hC ?_)
      · rw [lombardlaw05_IsinBack.l0, if_pos (by omega), if_pos (by omega), hbt, if_neg (fun h => hc ((c48 c).1 h)), if_pos rfl, if_pos (by rw [toList_L, toList_L, h7]), if_pos (by rw [toList_L, toList_L, hb, h8])]
      · simp only [if_true]; exact awake_end

theorem IsinBack_ev (a b : ByteArray) : Ev (fun k => lombardlaw05_IsinBack.f k a b) true := by
  unfold lombardlaw05_IsinBack.f
  refine Ev.bind (Make_ev a b) ?_
  unfold mk
  by_cases h : (L a).length = 2 ∧ (L b).length ≤ 9
  · rw [if_pos h]
    by_cases hs : shp (pad (L a) (L b)) = true
    · rw [if_pos hs]
      simp only [if_true]
      obtain ⟨e1, e2⟩ := mk_lnd (L a) (L b) h.1 h.2 hs
      have hL := Land_ev (S (pad (L a) (L b) ++ [UInt8.ofNat (last (pad (L a) (L b))).toNat]))
      rw [L_S, e1] at hL
      refine Ev.bind hL ?_
      exact Back_l0 a _ _ _ (by rw [L_S]; exact e2) (L_S _) (L b) b rfl (L_S _)
    · rw [if_neg hs]
      refine Ev.congr (f := fun k => (lombardlaw05_awake.f k).bind fun t => some t) (fun k => ?_) awake_end
      rw [if_neg (by simp), if_pos (by rw [toList_S])]
  · rw [if_neg h]
    refine Ev.congr (f := fun k => (lombardlaw05_awake.f k).bind fun t => some t) (fun k => ?_) awake_end
    rw [if_neg (by simp), if_pos (by rw [toList_S])]

def curs : List (List UInt8) := [[69, 85, 82], [85, 83, 68], [71, 66, 80], [67, 72, 70], [74, 80, 89], [83, 69, 75], [78, 79, 75], [68, 75, 75]]
def cur (l : List UInt8) : Bool := curs.any fun x => decide (l = x)
theorem Cur_eq (s : ByteArray) : isin_Currency.f s = some (cur (L s)) := by
  unfold isin_Currency.f cur curs
  rw [toList_L]
  simp only [List.any_cons, List.any_nil]
  repeat' split
  all_goals simp_all
def ALL : ByteArray := ⟨#[69, 85, 82, 32, 85, 83, 68, 32, 71, 66, 80, 32, 67, 72, 70, 32, 74, 80, 89, 32, 83, 69, 75, 32, 78, 79, 75, 32, 68, 75, 75, 32]⟩
theorem RCur_step (s : ByteArray) (n : Nat) (x : List UInt8) (r : Bool) (hn : n ≤ 28) (hx : (ALL.extract n (n + 3)).toList = x)
    (h : Ev (fun k => lombardref05_Currency.l0 k s ((n + 4 : Nat) : Int)) r) : Ev (fun k => lombardref05_Currency.l0 k s (n : Int)) (decide (L s = x) || r) := by
  have h3 : wrap64 ((n : Int) + 3) = ((n + 3 : Nat) : Int) := by rw [w64 (by omega) (by omega)]; push_cast; rfl
  have h4 : wrap64 ((n : Int) + 4) = ((n + 4 : Nat) : Int) := by rw [w64 (by omega) (by omega)]; push_cast; rfl
  refine Ev.step (f := fun k => if x = L s then some true else lombardref05_Currency.l0 k s ((n + 4 : Nat) : Int)) (fun k => ?_) ?_
  · rw [lombardref05_Currency.l0, if_pos (by omega), if_pos (by omega), h3, if_pos (by omega), if_pos (by omega), Int.toNat_natCast, Int.toNat_natCast]
    rw [show (⟨#[69, 85, 82, 32, 85, 83, 68, 32, 71, 66, 80, 32, 67, 72, 70, 32, 74, 80, 89, 32, 83, 69, 75, 32, 78, 79, 75, 32, 68, 75, 75, 32]⟩ : ByteArray) = ALL from rfl, hx, toList_L, h4]
  · by_cases he : x = L s
    · simp only [he, if_true, decide_true, Bool.true_or]; exact Ev.now _
    · simp only [he, if_false]
      rw [decide_eq_false (fun e => he e.symm)]
      exact h
theorem RCur_ev (s : ByteArray) : Ev (fun k => lombardref05_Currency.f k s) (cur (L s)) := by
  have h0 : Ev (fun k => lombardref05_Currency.l0 k s ((28 + 4 : Nat) : Int)) false := by
    refine Ev.step (f := fun _ => some false) (fun k => ?_) (Ev.now _)
    rw [lombardref05_Currency.l0, if_neg (by omega)]
  exact RCur_step s 0 [69, 85, 82] _ (by omega) (by rw [toList_L]; decide +kernel) <| RCur_step s 4 [85, 83, 68] _ (by omega) (by rw [toList_L]; decide +kernel) <| RCur_step s 8 [71, 66, 80] _ (by omega) (by rw [toList_L]; decide +kernel) <| RCur_step s 12 [67, 72, 70] _ (by omega) (by rw [toList_L]; decide +kernel) <| RCur_step s 16 [74, 80, 89] _ (by omega) (by rw [toList_L]; decide +kernel) <| RCur_step s 20 [83, 69, 75] _ (by omega) (by rw [toList_L]; decide +kernel) <| RCur_step s 24 [78, 79, 75] _ (by omega) (by rw [toList_L]; decide +kernel) <| RCur_step s 28 [68, 75, 75] _ (by omega) (by rw [toList_L]; decide +kernel) h0

def ast (i : List UInt8) (n r m : Int) (c : List UInt8) : Int :=
  if chk i = 0 then (if cur c = true then (if n < 0 ∨ 9999 < n ∨ r < 0 ∨ 20 < r then 1 else if m < 0 ∨ 200000 < m then 10 else 0) else 11) else chk i
theorem Asset_ev (i c : ByteArray) (n r m : Int) : Ev (fun k => isin_Asset.f k i n r m c) (ast (L i) n r m (L c)) := by
  unfold isin_Asset.f ast
  refine Ev.bind (Check_ev i) ?_
  by_cases h : chk (L i) = 0
  · simp only [h, if_true, Cur_eq, Option.bind_some]
    by_cases hc : cur (L c) = true
    · simp only [hc, if_true]
      refine Ev.congr (f := fun k => isin_Asset.j0 k (decide (n < 0 ∨ 9999 < n ∨ r < 0 ∨ 20 < r)) i n r m c) (fun k => ?_) ?_
      · by_cases h1 : n < 0
        · rw [if_pos h1, decide_eq_true (by omega)]
        · by_cases h2 : n > 9999
          · rw [if_neg h1, if_pos h2, decide_eq_true (by omega)]
          · by_cases h3 : r < 0
            · rw [if_neg h1, if_neg h2, if_pos h3, decide_eq_true (by omega)]
            · rw [if_neg h1, if_neg h2, if_neg h3]
              congr 1
              rw [Bool.eq_iff_iff]; simp; omega
      · refine Ev.step (f := fun _ => some (if n < 0 ∨ 9999 < n ∨ r < 0 ∨ 20 < r then 1 else if m < 0 ∨ 200000 < m then 10 else 0)) (fun k => ?_) (Ev.now _)
        rw [isin_Asset.j0]
        by_cases h1 : n < 0 ∨ 9999 < n ∨ r < 0 ∨ 20 < r
        · rw [decide_eq_true h1, if_pos rfl, if_pos h1]
        · rw [decide_eq_false h1, if_neg (by simp), if_neg h1]
          by_cases h2 : m < 0
          · rw [if_pos h2, if_pos (by omega)]
          · by_cases h3 : m > 200000
            · rw [if_neg h2, if_pos h3, if_pos (by omega)]
            · rw [if_neg h2, if_neg h3, if_neg (by omega)]
    · simp only [hc]; exact Ev.now _
  · simp only [h, if_false]; exact Ev.now _
theorem RAsset_ev (i c : ByteArray) (n r m : Int) : Ev (fun k => lombardref05_Asset.f k i n r m c) (ast (L i) n r m (L c)) := by
  unfold lombardref05_Asset.f ast
  refine Ev.bind (RCheck_ev i) ?_
  by_cases h : chk (L i) = 0
  · simp only [h, if_true]
    refine Ev.bind (RCur_ev c) ?_
    by_cases hc : cur (L c) = true
    · simp only [hc, if_true]
      refine Ev.congr (f := fun k => lombardref05_Asset.j0 k (decide (n < 0 ∨ 9999 < n ∨ r < 0 ∨ 20 < r)) i n r m c) (fun k => ?_) ?_
      · by_cases h1 : n < 0
        · rw [if_pos h1, decide_eq_true (by omega)]
        · by_cases h2 : n > 9999
          · rw [if_neg h1, if_pos h2, decide_eq_true (by omega)]
          · by_cases h3 : r < 0
            · rw [if_neg h1, if_neg h2, if_pos h3, decide_eq_true (by omega)]
            · rw [if_neg h1, if_neg h2, if_neg h3]
              congr 1
              rw [Bool.eq_iff_iff]; simp; omega
      · refine Ev.step (f := fun _ => some (if n < 0 ∨ 9999 < n ∨ r < 0 ∨ 20 < r then 1 else if m < 0 ∨ 200000 < m then 10 else 0)) (fun k => ?_) (Ev.now _)
        rw [lombardref05_Asset.j0]
        by_cases h1 : n < 0 ∨ 9999 < n ∨ r < 0 ∨ 20 < r
        · rw [decide_eq_true h1, if_pos rfl, if_pos h1]
        · rw [decide_eq_false h1, if_neg (by simp), if_neg h1]
          by_cases h2 : m < 0
          · rw [if_pos h2, if_pos (by omega)]
          · by_cases h3 : m > 200000
            · rw [if_neg h2, if_pos h3, if_pos (by omega)]
            · rw [if_neg h2, if_neg h3, if_neg (by omega)]
    · simp only [hc]; exact Ev.now _
  · simp only [h, if_false]
    refine Ev.bind (RCheck_ev i) ?_
    exact Ev.now _

theorem IsinAssets_ev (s i c : ByteArray) (n r m : Int) : Ev (fun k => lombardlaw05_IsinAssets.f k s i n r m c) true := by
  unfold lombardlaw05_IsinAssets.f
  simp only [Cur_eq, Option.bind_some]
  refine Ev.bind (RCur_ev s) ?_
  simp only [beq_self_eq_true, if_true]
  refine Ev.bind (Asset_ev i c n r m) (Ev.bind (RAsset_ev i c n r m) ?_)
  simp only [if_true]
  exact awake_end

end Go.Proofs.Ytabnpmojccepcaa.Facts
