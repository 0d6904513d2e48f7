/- What the document's answer for package isin comes to: digits, the shape of eleven signs, whether digits add up, the digit, the check. -/
import Derived.Test.YtabnpmojccepcaaFacts
namespace Go.Proofs.Ytabnpmojccepcaa.Facts
open Go.RowKit Go.Proofs.Ytabnpmojccepcaa.I Go.Proofs.YtabnpmojccepcaaW.PrintWords Go.Proofs.YtabnpmojccepcaaW.PrintLast Go.Proofs.YtabnpmojccepcaaW.PrintMore Go.Proofs.Ytabnpmojccepcaa
set_option linter.unusedVariables false

def alnum (c : UInt8) : Bool := isU c || isD c
def rdig (c : UInt8) : List Int := if isD c = true then [(c.toNat : Int) - 48] else [((c.toNat : Int) - 55) / 10, ((c.toNat : Int) - 55) % 10]
theorem rdig_len (c : UInt8) : (rdig c).length ≤ 2 := by unfold rdig; split <;> simp
theorem isD_iff (c : UInt8) : isD c = true ↔ 48 ≤ c.toNat ∧ c.toNat ≤ 57 := by simp [isD]
theorem isU_iff (c : UInt8) : isU c = true ↔ 65 ≤ c.toNat ∧ c.toNat ≤ 90 := by simp [isU]
theorem rdig_range (c : UInt8) (h : alnum c = true) : ∀ d ∈ rdig c, 0 ≤ d ∧ d ≤ 9 := by
  intro d hd
  unfold rdig at hd
  split at hd
  · rename_i h1
    rw [isD_iff] at h1
    simp at hd; omega
  · rename_i h1
    have h2 : isU c = true := by simpa [alnum, h1] using h
    rw [isU_iff] at h2
    simp at hd; omega
theorem rdig_rev (c : UInt8) (h : alnum c = true) : (rdig c).reverse = digs c := by
  unfold rdig digs
  by_cases h1 : isD c = true
  · rw [if_pos h1, if_pos ((isD_iff c).1 h1)]; rfl
  · have h2 : isU c = true := by simpa [alnum, h1] using h
    rw [isU_iff] at h2
    rw [if_neg h1, if_neg (fun h3 => h1 ((isD_iff c).2 h3))]
    simp only [List.reverse_cons, List.reverse_nil, List.nil_append, List.cons_append]
    congr 1
    · omega
    · congr 1; omega

theorem digits_l0 (s : ByteArray) (hn : s.size ≤ 1099511627776) : ∀ (r : List UInt8) (i : Nat) (acc : List Int), (L s).drop i = r → i ≤ s.size → acc.length ≤ 2 * i →
    Ev (fun k => lombardref05_digits.l0 k s acc (i : Int)) (if r.all alnum = true then (acc ++ r.flatMap rdig, true) else ([], false)) := by
  intro r
  induction r with
  | nil =>
    intro i acc h hi ha
    have hi' : s.size ≤ i := by rw [← L_len]; exact List.drop_eq_nil_iff.1 h
    refine Ev.step (f := fun _ => some (acc, true)) (fun k => ?_) ?_
    · rw [lombardref05_digits.l0, if_neg (by omega)]
    · simpa using Ev.now (acc, true)
  | cons c r ih =>
    intro i acc h hi ha
    obtain ⟨hlt, hc, hr⟩ := bt_L' s i c r h
    have hcr := c.toNat_lt
    have hw : wrap64 ((i : Int) + 1) = ((i + 1 : Nat) : Int) := by rw [w64 (by omega) (by omega)]; push_cast; rfl
    have hwc : wrap64 (c.toNat : Int) = (c.toNat : Int) := w64 (by omega) (by omega)
    have hl := rdig_len c
    have ih' := ih (i + 1) (acc ++ rdig c) hr (by omega) (by rw [List.length_append]; omega)
    by_cases hd : isD c = true
    · have hd' := (isD_iff c).1 hd
      refine Ev.step (f := fun k => lombardref05_digits.j1 k s acc (i : Int) (c.toNat : Int) true) (fun k => ?_) ?_
      · rw [lombardref05_digits.l0, if_pos (by omega), if_pos (by omega), hc, hwc, if_pos (by omega), decide_eq_true (by omega)]
      · refine Ev.step (f := fun k => lombardref05_digits.l0 k s (acc ++ rdig c) ((i + 1 : Nat) : Int)) (fun k => ?_) ?_
        · rw [lombardref05_digits.j1, if_pos rfl, if_pos (by omega), hw, w64 (by omega) (by omega)]
          unfold rdig; rw [if_pos hd]
        · simpa [alnum, hd, List.append_assoc] using ih'
    · have hd' : ¬ (48 ≤ c.toNat ∧ c.toNat ≤ 57) := fun h => hd ((isD_iff c).2 h)
      have h1 : Ev (fun k => lombardref05_digits.j1 k s acc (i : Int) (c.toNat : Int) false) (if (c :: r).all alnum = true then (acc ++ (c :: r).flatMap rdig, true) else ([], false)) := by
        by_cases hu : isU c = true
        · have hu' := (isU_iff c).1 hu
          refine Ev.step (f := fun k => lombardref05_digits.l0 k s (acc ++ rdig c) ((i + 1 : Nat) : Int)) (fun k => ?_) ?_
          · rw [lombardref05_digits.j1, if_neg (by simp), if_pos (by omega), if_pos (by omega)]
            simp only [Option.bind_some]
            rw [if_pos (by simp; omega), hw, w64 (i := (c.toNat : Int) - 65) (by omega) (by omega), w64 (i := (c.toNat : Int) - 65 + 10) (by omega) (by omega), Int.tdiv_eq_ediv_of_nonneg (by omega), Int.tmod_eq_emod_of_nonneg (by omega), w64 (by omega) (by omega)]
            unfold rdig; rw [if_neg hd, show (c.toNat : Int) - 65 + 10 = c.toNat - 55 by omega]
          · simpa [alnum, hu, List.append_assoc] using ih'
        · have hu' : ¬ (65 ≤ c.toNat ∧ c.toNat ≤ 90) := fun h => hu ((isU_iff c).2 h)
          refine Ev.step (f := fun _ => some (([] : List Int), false)) (fun k => ?_) ?_
          · rw [lombardref05_digits.j1, if_neg (by simp)]
            by_cases h65 : (c.toNat : Int) ≥ 65
            · rw [if_pos h65, if_neg (by omega)]
            · rw [if_neg h65]
          · simpa [alnum, hu, hd] using Ev.now (([] : List Int), false)
      by_cases h48 : (c.toNat : Int) ≥ 48
      · refine Ev.step (f := fun k => lombardref05_digits.j1 k s acc (i : Int) (c.toNat : Int) false) (fun k => ?_) h1
        rw [lombardref05_digits.l0, if_pos (by omega), if_pos (by omega), hc, hwc, if_pos h48, decide_eq_false (by omega)]
      · refine Ev.step (f := fun k => lombardref05_digits.j1 k s acc (i : Int) (c.toNat : Int) false) (fun k => ?_) h1
        rw [lombardref05_digits.l0, if_pos (by omega), if_pos (by omega), hc, hwc, if_neg h48]

theorem digits_ev (s : ByteArray) (hn : s.size ≤ 1099511627776) : Ev (fun k => lombardref05_digits.f k s) (if (L s).all alnum = true then ((L s).flatMap rdig, true) else ([], false)) := by
  have := digits_l0 s hn (L s) 0 [] (by simp) (by omega) (by simp)
  rw [List.nil_append] at this
  exact this

theorem okTail_iff (l : List UInt8) (i : Nat) (h : 2 ≤ i) : okTail l i = l.all alnum := by
  induction l generalizing i with
  | nil => rfl
  | cons c l ih => simp [okTail, ih (i + 1) (by omega), alnum, h]
theorem shp_iff (l : List UInt8) (h : l.length = 11) : shp l = (l.all alnum && decide (65 ≤ (l[0]'(by omega)).toNat) && decide (65 ≤ (l[1]'(by omega)).toNat)) := by
  match l, h with
  | a :: b :: l, h =>
    have h' : (decide ((a :: b :: l).length = 11)) = true := decide_eq_true h
    unfold shp
    rw [h']
    simp only [okTail, okTail_iff l 2 (by omega), List.all_cons, alnum, List.getElem_cons_zero, List.getElem_cons_succ]
    simp only [isU, isD]
    generalize l.all alnum = p
    rw [Bool.eq_iff_iff]
    cases p
    · simp
    · simp; omega

theorem shaped_ev (s : ByteArray) (hn : s.size ≤ 1099511627776) : Ev (fun k => lombardref05_shaped.f k s) (shp (L s)) := by
  unfold lombardref05_shaped.f
  refine Ev.bind (digits_ev s hn) ?_
  by_cases ha : (L s).all alnum = true
  · simp only [ha, if_true]
    by_cases h : (s.size : Int) = 11
    · have hl : (L s).length = 11 := by rw [L_len]; omega
      have h0 := bt_L s 0 (by omega)
      have h1 := bt_L s 1 (by omega)
      simp only [Int.natCast_zero, Int.natCast_one] at h0 h1
      rw [shp_iff (L s) hl, ha]
      refine Ev.congr (f := fun _ => some (true && decide (65 ≤ ((L s)[0]'(by omega)).toNat) && decide (65 ≤ ((L s)[1]'(by omega)).toNat))) (fun k => ?_) (Ev.now _)
      rw [if_pos h, if_pos (by omega), h0]
      by_cases hx : ((L s)[0]'(by omega)).toNat ≥ 65
      · rw [if_pos (by omega), if_pos (by omega), h1]
        congr 1
        rw [Bool.eq_iff_iff]; simp; omega
      · rw [if_neg (by omega)]
        congr 1
        rw [Bool.eq_iff_iff]; simp; omega
    · have : shp (L s) = false := by unfold shp; rw [L_len]; simp; intro _; omega
      rw [this]
      refine Ev.congr (f := fun _ => some false) (fun k => ?_) (Ev.now _)
      rw [if_neg h]
  · have : shp (L s) = false := by
      by_cases h : (L s).length = 11
      · rw [shp_iff (L s) h]; simp [ha]
      · unfold shp; rw [decide_eq_false h, Bool.and_false]
    rw [this]
    have ha' : (L s).all alnum = false := by simpa using ha
    simp only [ha']
    exact Ev.now _

theorem right_l0 (dl : List Int) (b : Bool) (hl : dl.length ≤ 2199023255552) (hr : ∀ d ∈ dl, 0 ≤ d ∧ d ≤ 9) : ∀ (r : List Int) (i : Nat) (sum : Int), dl.reverse.drop i = r → i ≤ dl.length → 0 ≤ sum → sum ≤ 10 * i →
    Ev (fun k => lombardref05_right.l0 k dl b sum (i : Int)) (b && decide ((r.foldl tstep (sum, decide (i % 2 = 1))).1 % 10 = 0)) := by
  intro r
  induction r with
  | nil =>
    intro i sum h hi h0 h1
    have hi' : dl.length ≤ i := by have := List.drop_eq_nil_iff.1 h; simpa using this
    refine Ev.step (f := fun _ => some (b && decide (sum % 10 = 0))) (fun k => ?_) (Ev.now _)
    rw [lombardref05_right.l0, if_neg (by omega), Int.tmod_eq_emod_of_nonneg h0]
    cases b
    · rfl
    · rw [if_pos rfl]; simp
      rw [Bool.eq_iff_iff]; simp
  | cons d r ih =>
    intro i sum h hi h0 h1
    have hlt : i < dl.reverse.length := by
      rcases Nat.lt_or_ge i dl.reverse.length with h' | h'
      · exact h'
      · rw [List.drop_eq_nil_of_le h'] at h; cases h
    rw [List.drop_eq_getElem_cons hlt] at h
    injection h with e1 e2
    have hlt' : i < dl.length := by simpa using hlt
    rw [List.getElem_reverse] at e1
    have hd := hr d (by rw [← e1]; exact List.getElem_mem _)
    have hrd : rd dl ((dl.length - 1 - i : Nat) : Int) = d := by
      unfold rd
      rw [Int.toNat_natCast, List.getD_eq_getElem?_getD, List.getElem?_eq_getElem (by omega), Option.getD_some, e1]
    have hw : wrap64 ((i : Int) + 1) = ((i + 1 : Nat) : Int) := by rw [w64 (by omega) (by omega)]; push_cast; rfl
    have hidx : wrap64 (wrap64 ((dl.length : Int) - 1) - (i : Int)) = ((dl.length - 1 - i : Nat) : Int) := by
      rw [w64 (i := (dl.length : Int) - 1) (by omega) (by omega), w64 (by omega) (by omega)]; omega
    have hds := dbl_range (decide (i % 2 = 1)) d hd.1 (by omega)
    have hd9 : dbl (decide (i % 2 = 1)) d ≤ 9 := by unfold dbl; split <;> omega
    have ih' := ih (i + 1) (sum + dbl (decide (i % 2 = 1)) d) e2 (by omega) (by omega) (by push_cast; omega)
    have hpar : (decide ((i + 1) % 2 = 1)) = !(decide (i % 2 = 1)) := by
      rw [Bool.eq_iff_iff]; simp; omega
    rw [hpar] at ih'
    refine Ev.step (f := fun k => lombardref05_right.l0 k dl b (sum + dbl (decide (i % 2 = 1)) d) ((i + 1 : Nat) : Int)) (fun k => ?_) ?_
    · rw [lombardref05_right.l0, if_pos (by omega), hidx, if_pos (by omega), if_pos (by omega), hrd, hw, Int.tmod_eq_emod_of_nonneg (a := (i : Int)) (by omega)]
      by_cases hp : i % 2 = 1
      · rw [if_pos (by omega), w64 (i := 2 * d) (by omega) (by omega), Int.tdiv_eq_ediv_of_nonneg (by omega), Int.tmod_eq_emod_of_nonneg (by omega)]
        rw [w64 (i := 2 * d / 10) (by omega) (by omega), w64 (i := sum + 2 * d / 10) (by omega) (by omega), w64 (by omega) (by omega)]
        congr 1
        simp only [dbl, hp, decide_true, if_true]
        omega
      · rw [if_neg (by omega), Int.tdiv_eq_ediv_of_nonneg (by omega), Int.tmod_eq_emod_of_nonneg (by omega)]
        rw [w64 (i := d / 10) (by omega) (by omega), w64 (i := sum + d / 10) (by omega) (by omega), w64 (by omega) (by omega)]
        congr 1
        simp only [dbl, hp, decide_false]
        simp; omega
    · exact ih'

/-- Do a text's digits add up? -/
def rightB (l : List UInt8) : Bool := l.all alnum && decide (((l.reverse.flatMap digs).foldl tstep (0, false)).1 % 10 = 0)
theorem flat_rev (l : List UInt8) (h : l.all alnum = true) : (l.flatMap rdig).reverse = l.reverse.flatMap digs := by
  induction l with
  | nil => rfl
  | cons c l ih =>
    simp only [List.all_cons, Bool.and_eq_true] at h
    rw [List.flatMap_cons, List.reverse_append, ih h.2, rdig_rev c h.1, List.reverse_cons, List.flatMap_append]
    simp
theorem flat_len (l : List UInt8) : (l.flatMap rdig).length ≤ 2 * l.length := by
  induction l with
  | nil => simp
  | cons c l ih => rw [List.flatMap_cons, List.length_append, List.length_cons]; have := rdig_len c; omega
theorem flat_range (l : List UInt8) (h : l.all alnum = true) : ∀ d ∈ l.flatMap rdig, 0 ≤ d ∧ d ≤ 9 := by
  intro d hd
  rw [List.mem_flatMap] at hd
  obtain ⟨c, hc, hd⟩ := hd
  exact rdig_range c (List.all_eq_true.1 h c hc) d hd

theorem right_ev (s : ByteArray) (hn : s.size ≤ 1099511627776) : Ev (fun k => lombardref05_right.f k s) (rightB (L s)) := by
  unfold lombardref05_right.f
  refine Ev.bind (digits_ev s hn) ?_
  by_cases ha : (L s).all alnum = true
  · simp only [ha, if_true]
    have hlen := flat_len (L s)
    rw [L_len] at hlen
    have := right_l0 ((L s).flatMap rdig) true (by omega) (flat_range (L s) ha) _ 0 0 rfl (by omega) (by omega) (by omega)
    rw [List.drop_zero, flat_rev (L s) ha] at this
    unfold rightB
    rw [ha]
    exact this
  · have ha' : (L s).all alnum = false := by simpa using ha
    simp only [ha']
    have := right_l0 [] false (by simp) (by simp) _ 0 0 rfl (by simp) (by omega) (by omega)
    unfold rightB
    rw [ha']
    simpa using this

theorem fold_shift (l : List Int) (x : Int) (tw : Bool) : (l.foldl tstep (x, tw)).1 = x + (l.foldl tstep (0, tw)).1 := by
  induction l generalizing x tw with
  | nil => simp
  | cons d l ih =>
    simp only [List.foldl_cons, tstep]
    rw [ih, ih (0 + dbl tw d)]; omega
theorem right_snoc (l : List UInt8) (c : UInt8) (hd : isD c = true) : rightB (l ++ [c]) = (l.all alnum && decide ((((c.toNat : Int) - 48) + T l) % 10 = 0)) := by
  unfold rightB T totFrom
  rw [List.all_append, List.reverse_append, List.flatMap_append, List.foldl_append]
  have hdg : digs c = [(c.toNat : Int) - 48] := by unfold digs; rw [if_pos ((isD_iff c).1 hd)]
  simp only [List.all_cons, List.all_nil, alnum, hd, Bool.or_true, Bool.and_true, List.reverse_cons, List.reverse_nil, List.nil_append, List.flatMap_cons, List.flatMap_nil, List.append_nil, hdg, List.foldl_cons, List.foldl_nil, List.drop_zero]
  have e : (List.foldl tstep (tstep (0, false) ((c.toNat : Int) - 48)) (List.flatMap digs l.reverse)).1 = ((c.toNat : Int) - 48) + (List.foldl tstep (0, true) (List.flatMap digs l.reverse)).1 := by
    rw [show tstep (0, false) ((c.toNat : Int) - 48) = ((c.toNat : Int) - 48, true) by simp [tstep, dbl], fold_shift]
  simp only [e]
theorem all_of_shp (l : List UInt8) (h : shp l = true) : l.all alnum = true ∧ l.length = 11 := by
  have h2 : l.length = 11 := by unfold shp at h; simp at h; exact h.2
  rw [shp_iff l h2] at h
  simp only [Bool.and_eq_true] at h
  exact ⟨h.1.1, h2⟩
theorem ofNat_toNat (n : Int) (h0 : 0 ≤ n) (h1 : n ≤ 255) : ((UInt8.ofNat n.toNat).toNat : Int) = n := by
  rw [UInt8.toNat_ofNat']; omega

theorem RDigit_l0 (s : ByteArray) (hs : s.size = 11) (ha : (L s).all alnum = true) : ∀ (d : Nat) (c : Int), 48 ≤ c → c + d = last (L s) →
    Ev (fun k => lombardref05_Digit.l0 k s c) (last (L s), 0) := by
  have hT := T_range (L s)
  have hla := last_range (L s)
  intro d
  induction d with
  | zero =>
    intro c h0 h1
    have hc : c = last (L s) := by omega
    have hr := right_ev (s ++ strOfNums [c]) (by rw [ByteArray.size_append, strOfNums_size, hs]; simp)
    have hx := ofNat_toNat c (by omega) (by omega)
    have hb : rightB (L (s ++ strOfNums [c])) = true := by
      rw [L_append, L_nums]
      show rightB (L s ++ [UInt8.ofNat c.toNat]) = true
      rw [right_snoc _ _ ((isD_iff _).2 (by omega)), ha, hx]
      simp only [Bool.true_and, decide_eq_true_eq]
      rw [hc]; unfold last; omega
    rw [hb] at hr
    refine Ev.step (f := fun k => (lombardref05_right.f k (s ++ strOfNums [c])).bind fun t => if t = true then some (c % 256, 0) else lombardref05_Digit.l0 k s (wrap32 (c + 1))) (fun k => ?_) (Ev.bind hr ?_)
    · rw [lombardref05_Digit.l0, if_pos (by omega)]
      simp only [Option.bind_some, show c % 256 = c by omega]
      rw [if_pos (by rw [strOfNums_size, hs]; simp)]
    · simp only [if_true]
      rw [show c % 256 = last (L s) by omega]
      exact Ev.now _
  | succ d ih =>
    intro c h0 h1
    have hr := right_ev (s ++ strOfNums [c]) (by rw [ByteArray.size_append, strOfNums_size, hs]; simp)
    have hx := ofNat_toNat c (by omega) (by omega)
    have hb : rightB (L (s ++ strOfNums [c])) = false := by
      rw [L_append, L_nums]
      show rightB (L s ++ [UInt8.ofNat c.toNat]) = false
      rw [right_snoc _ _ ((isD_iff _).2 (by omega)), ha, hx]
      simp only [Bool.true_and, decide_eq_false_iff_not]
      unfold last at h1 hla; omega
    rw [hb] at hr
    have hw : wrap32 (c + 1) = c + 1 := by unfold wrap32; omega
    refine Ev.step (f := fun k => (lombardref05_right.f k (s ++ strOfNums [c])).bind fun t => if t = true then some (c % 256, 0) else lombardref05_Digit.l0 k s (wrap32 (c + 1))) (fun k => ?_) (Ev.bind hr ?_)
    · rw [lombardref05_Digit.l0, if_pos (by omega)]
      simp only [Option.bind_some, show c % 256 = c by omega]
      rw [if_pos (by rw [strOfNums_size, hs]; simp)]
    · simp only [hw]
      exact ih (c + 1) (by omega) (by push_cast at h1; omega)

theorem RDigit_ev (s : ByteArray) (hn : s.size ≤ 1099511627776) : Ev (fun k => lombardref05_Digit.f k s) (if shp (L s) = true then (last (L s), 0) else (0, 11)) := by
  unfold lombardref05_Digit.f
  refine Ev.bind (shaped_ev s hn) ?_
  by_cases h : shp (L s) = true
  · simp only [h, if_true]
    obtain ⟨ha, hl⟩ := all_of_shp _ h
    rw [L_len] at hl
    have hla := last_range (L s)
    exact RDigit_l0 s hl ha (last (L s) - 48).toNat 48 (by omega) (by omega)
  · simp only [h]
    exact Ev.now _

/-- What is wrong with a number. -/
def chk (l : List UInt8) : Int :=
  if l.length = 12 then (if isD (l.getD 11 0) = true then (if shp (l.take 11) = true then (if ((l.getD 11 0).toNat : Int) = last (l.take 11) then 0 else 12) else 11) else 11) else 11

end Go.Proofs.Ytabnpmojccepcaa.Facts
