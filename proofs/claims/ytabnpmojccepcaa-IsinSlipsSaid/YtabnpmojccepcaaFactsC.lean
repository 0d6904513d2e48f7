/- Check, Make, Land and the chapter's examples, of the program and of the document's answer. -/
import Derived.Test.YtabnpmojccepcaaFactsB
namespace Go.Proofs.Ytabnpmojccepcaa.Facts
open Go.RowKit Go.Proofs.Ytabnpmojccepcaa.I Go.Proofs.YtabnpmojccepcaaW.PrintWords Go.Proofs.YtabnpmojccepcaaW.PrintLast Go.Proofs.YtabnpmojccepcaaW.PrintMore Go.Proofs.Ytabnpmojccepcaa
set_option linter.unusedVariables false

def S (l : List UInt8) : ByteArray := ⟨l.toArray⟩
theorem L_S (l : List UInt8) : L (S l) = l := by simp [L, S]
theorem S_size (l : List UInt8) : (S l).size = l.length := by simp [S, ByteArray.size]
theorem S_L (s : ByteArray) : S (L s) = s := L_ext (L_S _)
theorem eq_S {s : ByteArray} {l : List UInt8} (h : L s = l) : s = S l := by rw [← h, S_L]
theorem toList_S (l : List UInt8) : (S l).toList = l := by rw [toList_L, L_S]

theorem chk_ne (l : List UInt8) (h : ¬ l.length = 12) : chk l = 11 := by unfold chk; rw [if_neg h]
theorem Check_ev (s : ByteArray) : Ev (fun k => isin_Check.f k s) (chk (L s)) := by
  unfold isin_Check.f
  by_cases h : (s.size : Int) = 12
  · have hl : (L s).length = 12 := by rw [L_len]; omega
    have hb : bt s 11 = (((L s)[11]'(by omega)).toNat : Int) := bt_L s 11 (by omega)
    have hg : (L s).getD 11 0 = (L s)[11]'(by omega) := by rw [List.getD_eq_getElem?_getD, List.getElem?_eq_getElem (by omega), Option.getD_some]
    have hx : L (s.extract 0 11) = (L s).take 11 := by rw [L_extract]; simp
    have hD := Digit_ev (s.extract 0 11) (by rw [← L_len, hx]; simp; omega)
    rw [hx] at hD
    unfold chk
    rw [if_pos hl, hg]
    refine Ev.congr (f := fun k => isin_Check.j0 k s (!(isD ((L s)[11]'(by omega))))) (fun k => ?_) ?_
    · rw [if_pos h, if_pos (by omega), hb, digit_eq]; rfl
    · by_cases hd : isD ((L s)[11]'(by omega)) = true
      · rw [if_pos hd, hd]
        by_cases hs : shp ((L s).take 11) = true
        · rw [if_pos hs]
          rw [if_pos hs] at hD
          refine Ev.step (f := fun k => (isin_Digit.f k (s.extract 0 11)).bind fun bt129 => if bt129.2 = 0 then (if 11 < (s.size : Int) then (if bt129.1 = bt s 11 then some bt129.2 else some 12) else none) else some bt129.2) (fun k => ?_) (Ev.bind hD ?_)
          · rw [isin_Check.j0, if_neg (by simp), if_pos (by omega), if_pos (by omega)]
          · simp only [hb, if_true]
            rw [if_pos (by omega)]
            by_cases he : (((L s)[11]'(by omega)).toNat : Int) = last ((L s).take 11)
            · rw [if_pos he, if_pos he.symm]; exact Ev.now _
            · rw [if_neg he, if_neg (fun e => he e.symm)]; exact Ev.now _
        · rw [if_neg hs]
          rw [if_neg hs] at hD
          refine Ev.step (f := fun k => (isin_Digit.f k (s.extract 0 11)).bind fun bt129 => if bt129.2 = 0 then (if 11 < (s.size : Int) then (if bt129.1 = bt s 11 then some bt129.2 else some 12) else none) else some bt129.2) (fun k => ?_) (Ev.bind hD ?_)
          · rw [isin_Check.j0, if_neg (by simp), if_pos (by omega), if_pos (by omega)]
          · exact Ev.now _
      · rw [if_neg hd]
        have hd' : isD ((L s)[11]'(by omega)) = false := by simpa using hd
        rw [hd']
        refine Ev.step (f := fun _ => some 11) (fun k => ?_) (Ev.now _)
        rw [isin_Check.j0, if_pos (by simp)]
  · rw [chk_ne _ (by rw [L_len]; omega)]
    refine Ev.congr (f := fun k => isin_Check.j0 k s true) (fun k => by rw [if_neg h]) ?_
    refine Ev.step (f := fun _ => some 11) (fun k => ?_) (Ev.now _)
    rw [isin_Check.j0, if_pos rfl]

theorem split12 (l : List UInt8) (h : l.length = 12) : l = l.take 11 ++ [l[11]'(by omega)] := by
  conv => lhs; rw [← List.take_append_drop 11 l]
  congr 1
  rw [List.drop_eq_getElem_cons (by omega), List.drop_eq_nil_of_le (by omega)]

theorem RCheck_ev (s : ByteArray) : Ev (fun k => lombardref05_Check.f k s) (chk (L s)) := by
  unfold lombardref05_Check.f
  by_cases h : (s.size : Int) = 12
  · have hl : (L s).length = 12 := by rw [L_len]; omega
    have hb : bt s 11 = (((L s)[11]'(by omega)).toNat : Int) := bt_L s 11 (by omega)
    have hg : (L s).getD 11 0 = (L s)[11]'(by omega) := by rw [List.getD_eq_getElem?_getD, List.getElem?_eq_getElem (by omega), Option.getD_some]
    have hx : L (s.extract 0 11) = (L s).take 11 := by rw [L_extract]; simp
    have hD := shaped_ev (s.extract 0 11) (by rw [← L_len, hx]; simp; omega)
    rw [hx] at hD
    have hR := right_ev s (by omega)
    unfold chk
    rw [if_pos hl, hg]
    by_cases hd : isD ((L s)[11]'(by omega)) = true
    · rw [if_pos hd]
      have hd' := (isD_iff _).1 hd
      refine Ev.congr (f := fun k => (lombardref05_shaped.f k (s.extract 0 11)).bind fun t => lombardref05_Check.j0 k s (!t)) (fun k => ?_) (Ev.bind hD ?_)
      · rw [if_pos h, if_pos (by omega), hb, if_neg (by omega), if_neg (by omega), if_pos (by omega), if_pos (by omega)]
      · by_cases hs : shp ((L s).take 11) = true
        · simp only [hs, if_true]
          refine Ev.step (f := fun k => (lombardref05_right.f k s).bind fun t => if t = true then some 0 else some 12) (fun k => ?_) (Ev.bind hR ?_)
          · rw [lombardref05_Check.j0, if_neg (by simp)]
          · have hc := right_snoc ((L s).take 11) ((L s)[11]'(by omega)) hd
            rw [← split12 _ hl, (all_of_shp _ hs).1, Bool.true_and] at hc
            rw [hc]
            have hT := T_range ((L s).take 11)
            by_cases he : (((L s)[11]'(by omega)).toNat : Int) = last ((L s).take 11)
            · rw [if_pos he, if_pos (by simp only [decide_eq_true_eq]; unfold last at he; omega)]; exact Ev.now _
            · rw [if_neg he, if_neg (by simp only [decide_eq_true_eq]; unfold last at he; omega)]; exact Ev.now _
        · have hs' : shp ((L s).take 11) = false := by simpa using hs
          simp only [hs']
          refine Ev.step (f := fun _ => some 11) (fun k => ?_) (Ev.now _)
          rw [lombardref05_Check.j0, if_pos (by simp)]
    · rw [if_neg hd]
      have hd' : ¬ (48 ≤ ((L s)[11]'(by omega)).toNat ∧ ((L s)[11]'(by omega)).toNat ≤ 57) := fun x => hd ((isD_iff _).2 x)
      refine Ev.congr (f := fun k => lombardref05_Check.j0 k s true) (fun k => ?_) ?_
      · rw [if_pos h, if_pos (by omega), hb]
        by_cases h48 : (((L s)[11]'(by omega)).toNat : Int) < 48
        · rw [if_pos h48]
        · rw [if_neg h48, if_pos (by omega)]
      · refine Ev.step (f := fun _ => some 11) (fun k => ?_) (Ev.now _)
        rw [lombardref05_Check.j0, if_pos rfl]
  · rw [chk_ne _ (by rw [L_len]; omega)]
    refine Ev.congr (f := fun k => lombardref05_Check.j0 k s true) (fun k => by rw [if_neg h]) ?_
    refine Ev.step (f := fun _ => some 11) (fun k => ?_) (Ev.now _)
    rw [lombardref05_Check.j0, if_pos rfl]

/-- The first eleven signs: own signs are filled up with zeros ahead. -/
def pad (land own : List UInt8) : List UInt8 := land ++ (List.replicate (9 - own.length) 48 ++ own)
def mk (land own : List UInt8) : ByteArray × Int :=
  if land.length = 2 ∧ own.length ≤ 9 then (if shp (pad land own) = true then (S (pad land own ++ [UInt8.ofNat (last (pad land own)).toNat]), 0) else (S [], 11)) else (S [], 11)
theorem pad_len (land own : List UInt8) (h : land.length = 2) (h' : own.length ≤ 9) : (pad land own).length = 11 := by
  simp [pad]; omega
theorem empty_S : (⟨#[]⟩ : ByteArray) = S [] := rfl

theorem Make_ev (a b : ByteArray) : Ev (fun k => isin_Make.f k a b) (mk (L a) (L b)) := by
  unfold isin_Make.f mk
  rw [L_len, L_len]
  by_cases h : (a.size : Int) = 2
  · by_cases h9 : b.size ≤ 9
    · rw [if_pos (show a.size = 2 ∧ b.size ≤ 9 by omega)]
      have hpl : L ((a ++ (⟨#[48, 48, 48, 48, 48, 48, 48, 48, 48]⟩ : ByteArray).extract (((b.size : Int) : Int).toNat) (⟨#[48, 48, 48, 48, 48, 48, 48, 48, 48]⟩ : ByteArray).size) ++ b) = pad (L a) (L b) := by
        rw [L_append, L_append, L_extract, pad, List.append_assoc, L_len]
        congr 2
        rw [show (⟨#[48, 48, 48, 48, 48, 48, 48, 48, 48]⟩ : ByteArray) = S (List.replicate 9 48) from rfl, L_S, S_size, List.take_of_length_le (by simp), Int.toNat_natCast, List.drop_replicate]
      have hsz : a.size + ((⟨#[48, 48, 48, 48, 48, 48, 48, 48, 48]⟩ : ByteArray).extract (((b.size : Int) : Int).toNat) (⟨#[48, 48, 48, 48, 48, 48, 48, 48, 48]⟩ : ByteArray).size).size ≤ 11 := by
        rw [← L_len ((⟨#[48, 48, 48, 48, 48, 48, 48, 48, 48]⟩ : ByteArray).extract _ _), L_extract]
        rw [show (⟨#[48, 48, 48, 48, 48, 48, 48, 48, 48]⟩ : ByteArray) = S (List.replicate 9 48) from rfl, L_S, S_size, List.take_of_length_le (by simp), Int.toNat_natCast, List.drop_replicate]
        simp; omega
      generalize hz : (⟨#[48, 48, 48, 48, 48, 48, 48, 48, 48]⟩ : ByteArray).extract (((b.size : Int) : Int).toNat) (⟨#[48, 48, 48, 48, 48, 48, 48, 48, 48]⟩ : ByteArray).size = z at hpl hsz
      have e := eq_S hpl
      have hpn := pad_len (L a) (L b) (by rw [L_len]; omega) (by rw [L_len]; omega)
      have hD := Digit_ev (a ++ z ++ b) (by rw [e, S_size, hpn]; omega)
      rw [hpl] at hD
      have hla := last_range (pad (L a) (L b))
      refine Ev.congr (f := fun k => isin_Make.j0 k a b false) (fun k => by rw [if_pos h, decide_eq_false (by omega)]) ?_
      refine Ev.step (f := fun k => (isin_Digit.f k (a ++ z ++ b)).bind fun bt133 => if bt133.2 = 0 then (some (a ++ z ++ b ++ strOfNums [bt133.1], 0)) else some ((⟨#[]⟩ : ByteArray), bt133.2)) (fun k => ?_) (Ev.bind hD ?_)
      · rw [isin_Make.j0, if_neg (by simp), if_pos (by omega), if_pos (by omega), hz, if_pos (by omega), if_pos (by rw [ByteArray.size_append]; omega)]
        congr 1
        funext x
        by_cases hx : x.2 = 0
        · rw [if_pos hx, if_pos hx]
          simp only [Option.bind_some]
          rw [if_pos (by rw [e, S_size, strOfNums_size, hpn]; simp)]
        · rw [if_neg hx, if_neg hx]
      · by_cases hs : shp (pad (L a) (L b)) = true
        · simp only [hs, if_true]
          have e2 : a ++ z ++ b ++ strOfNums [last (pad (L a) (L b))] = S (pad (L a) (L b) ++ [UInt8.ofNat (last (pad (L a) (L b))).toNat]) := by
            apply eq_S; rw [L_append, hpl, L_nums]; rfl
          rw [e2]; exact Ev.now _
        · have hs' : shp (pad (L a) (L b)) = false := by simpa using hs
          simp only [hs']
          exact Ev.now _
    · rw [if_neg (by omega)]
      refine Ev.congr (f := fun k => isin_Make.j0 k a b true) (fun k => by rw [if_pos h, decide_eq_true (by omega)]) ?_
      refine Ev.step (f := fun _ => some (S [], 11)) (fun k => ?_) (Ev.now _)
      rw [isin_Make.j0, if_pos rfl]; rfl
  · rw [if_neg (by omega)]
    refine Ev.congr (f := fun k => isin_Make.j0 k a b true) (fun k => by rw [if_neg h]) ?_
    refine Ev.step (f := fun _ => some (S [], 11)) (fun k => ?_) (Ev.now _)
    rw [isin_Make.j0, if_pos rfl]; rfl

theorem RMake_l0 (a b : ByteArray) (h : a.size = 2) (hb : b.size ≤ 9) : ∀ (d : Nat) (s : ByteArray), L s = List.replicate (9 - b.size - d) 48 ++ L b → d ≤ 9 - b.size →
    Ev (fun k => lombardref05_Make.l0 k a s) (mk (L a) (L b)) := by
  intro d
  induction d with
  | zero =>
    intro s hs hd
    have hsz : s.size = 9 := by rw [← L_len, hs, List.length_append, L_len]; simp; omega
    have hpl : L (a ++ s) = pad (L a) (L b) := by rw [L_append, hs, pad, L_len]; rfl
    have hpn := pad_len (L a) (L b) (by rw [L_len]; omega) (by rw [L_len]; omega)
    have e := eq_S hpl
    have hD := RDigit_ev (a ++ s) (by rw [e, S_size, hpn]; omega)
    rw [hpl] at hD
    have hla := last_range (pad (L a) (L b))
    unfold mk
    rw [if_pos (by rw [L_len, L_len]; omega)]
    refine Ev.step (f := fun k => (lombardref05_Digit.f k (a ++ s)).bind fun bt133 => if bt133.2 = 0 then (some (a ++ s ++ strOfNums [bt133.1], 0)) else some ((⟨#[]⟩ : ByteArray), bt133.2)) (fun k => ?_) (Ev.bind hD ?_)
    · rw [lombardref05_Make.l0, if_neg (by omega), if_pos (by omega)]
      congr 1
      funext x
      by_cases hx : x.2 = 0
      · rw [if_pos hx, if_pos hx]
        simp only [Option.bind_some]
        rw [if_pos (by rw [e, S_size, strOfNums_size, hpn]; simp)]
      · rw [if_neg hx, if_neg hx]
    · by_cases hs : shp (pad (L a) (L b)) = true
      · simp only [hs, if_true]
        have e2 : a ++ s ++ strOfNums [last (pad (L a) (L b))] = S (pad (L a) (L b) ++ [UInt8.ofNat (last (pad (L a) (L b))).toNat]) := by
          apply eq_S; rw [L_append, hpl, L_nums]; rfl
        rw [e2]; exact Ev.now _
      · have hs' : shp (pad (L a) (L b)) = false := by simpa using hs
        simp only [hs']
        exact Ev.now _
  | succ d ih =>
    intro s hs hd
    have hsz : s.size = 9 - (d + 1) := by rw [← L_len, hs, List.length_append, L_len]; simp; omega
    refine Ev.step (f := fun k => lombardref05_Make.l0 k a ((⟨#[48]⟩ : ByteArray) ++ s)) (fun k => ?_) (ih _ ?_ (by omega))
    · rw [lombardref05_Make.l0, if_pos (by omega), if_pos (by omega)]
    · rw [L_append, hs, show L (⟨#[48]⟩ : ByteArray) = [48] from rfl, show 9 - b.size - d = (9 - b.size - (d + 1)) + 1 by omega, List.replicate_succ]; rfl

theorem RMake_ev (a b : ByteArray) : Ev (fun k => lombardref05_Make.f k a b) (mk (L a) (L b)) := by
  unfold lombardref05_Make.f
  by_cases h : (a.size : Int) = 2
  · by_cases h9 : b.size ≤ 9
    · refine Ev.congr (f := fun k => lombardref05_Make.j0 k a b false) (fun k => by rw [if_pos h, decide_eq_false (by omega)]) ?_
      refine Ev.step (f := fun k => lombardref05_Make.l0 k a b) (fun k => ?_) (RMake_l0 a b (by omega) h9 (9 - b.size) b (by simp) (by omega))
      rw [lombardref05_Make.j0, if_neg (by simp)]
    · unfold mk
      rw [L_len, L_len, if_neg (by omega)]
      refine Ev.congr (f := fun k => lombardref05_Make.j0 k a b true) (fun k => by rw [if_pos h, decide_eq_true (by omega)]) ?_
      refine Ev.step (f := fun _ => some (S [], 11)) (fun k => ?_) (Ev.now _)
      rw [lombardref05_Make.j0, if_pos rfl]; rfl
  · unfold mk
    rw [L_len, L_len, if_neg (by omega)]
    refine Ev.congr (f := fun k => lombardref05_Make.j0 k a b true) (fun k => by rw [if_neg h]) ?_
    refine Ev.step (f := fun _ => some (S [], 11)) (fun k => ?_) (Ev.now _)
    rw [lombardref05_Make.j0, if_pos rfl]; rfl

theorem awake_ev : Ev (fun k => lombardlaw05_awake.f k) true := by
  unfold lombardlaw05_awake.f
  have hm := Make_ev (S [85, 83]) (S [48, 51, 55, 56, 51, 51, 49, 48, 48])
  have e : mk (L (S [85, 83])) (L (S [48, 51, 55, 56, 51, 51, 49, 48, 48])) = (S [85, 83, 48, 51, 55, 56, 51, 51, 49, 48, 48, 53], 0) := by
    rw [L_S, L_S]
    decide +kernel
  rw [e] at hm
  refine Ev.bind hm ?_
  have c1 := Check_ev (S [85, 83, 48, 51, 55, 56, 51, 51, 49, 48, 48, 53])
  have c2 := Check_ev (S [85, 83, 48, 51, 55, 56, 51, 51, 49, 48, 48, 54])
  rw [show chk (L (S [85, 83, 48, 51, 55, 56, 51, 51, 49, 48, 48, 53])) = 0 by rw [L_S]; decide +kernel] at c1
  rw [show chk (L (S [85, 83, 48, 51, 55, 56, 51, 51, 49, 48, 48, 54])) = 12 by rw [L_S]; decide +kernel] at c2
  simp only [if_true, toList_S]
  refine Ev.bind c1 ?_
  simp only [if_true]
  refine Ev.bind c2 ?_
  exact Ev.now _

/-- What a law's end comes to. -/
theorem awake_end : Ev (fun k => (lombardlaw05_awake.f k).bind fun t => some t) true := Ev.bind awake_ev (Ev.now _)

end Go.Proofs.Ytabnpmojccepcaa.Facts
