/- IsinSlips: one digit changed, or two neighbours changed round; and that the law's function, as printed, comes to true. -/
import Derived.Test.YtabnpmojccepcaaFactsC
namespace Go.Proofs.Ytabnpmojccepcaa.Facts
open Go.RowKit Go.Proofs.Ytabnpmojccepcaa.I Go.Proofs.YtabnpmojccepcaaW.PrintWords Go.Proofs.YtabnpmojccepcaaW.PrintLast Go.Proofs.YtabnpmojccepcaaW.PrintMore Go.Proofs.Ytabnpmojccepcaa
set_option linter.unusedVariables false

/-- The sum over all twelve signs. -/
def F (l : List UInt8) : Int := ((l.reverse.flatMap digs).foldl tstep (0, false)).1
theorem digs_D (c : UInt8) (h : isD c = true) : digs c = [(c.toNat : Int) - 48] := by
  unfold digs; rw [if_pos ((isD_iff c).1 h)]
theorem F_one (p q : List UInt8) : ∃ (A B : Int) (tw : Bool), ∀ x, isD x = true → F (p ++ x :: q) = A + dbl tw ((x.toNat : Int) - 48) + B := by
  refine ⟨((q.reverse.flatMap digs).foldl tstep (0, false)).1, ((p.reverse.flatMap digs).foldl tstep (0, !((q.reverse.flatMap digs).foldl tstep (0, false)).2)).1, ((q.reverse.flatMap digs).foldl tstep (0, false)).2, fun x hx => ?_⟩
  unfold F
  rw [List.reverse_append, List.reverse_cons, List.flatMap_append, List.flatMap_append, List.foldl_append, List.foldl_append]
  simp only [List.flatMap_cons, List.flatMap_nil, List.append_nil, digs_D x hx, List.foldl_cons, List.foldl_nil, tstep]
  rw [fold_shift]
theorem F_two (p q : List UInt8) : ∃ (A B : Int) (tw : Bool), ∀ x y, isD x = true → isD y = true → F (p ++ x :: y :: q) = A + dbl tw ((y.toNat : Int) - 48) + dbl (!tw) ((x.toNat : Int) - 48) + B := by
  refine ⟨((q.reverse.flatMap digs).foldl tstep (0, false)).1, ((p.reverse.flatMap digs).foldl tstep (0, !!((q.reverse.flatMap digs).foldl tstep (0, false)).2)).1, ((q.reverse.flatMap digs).foldl tstep (0, false)).2, fun x y hx hy => ?_⟩
  unfold F
  rw [List.reverse_append, List.reverse_cons, List.reverse_cons, List.flatMap_append, List.flatMap_append, List.flatMap_append, List.foldl_append, List.foldl_append, List.foldl_append]
  simp only [List.flatMap_cons, List.flatMap_nil, List.append_nil, digs_D x hx, digs_D y hy, List.foldl_cons, List.foldl_nil, tstep]
  rw [fold_shift]

/-- What a number's signs must be, the sum apart. -/
def St (l : List UInt8) : Prop := l.length = 12 ∧ l.all alnum = true ∧ (∀ c ∈ l.take 2, 65 ≤ c.toNat) ∧ ∀ c ∈ l.getLast?, isD c = true
theorem St_one (p q : List UInt8) (x d : UInt8) (hx : isD x = true) (hd : isD d = true) (h : St (p ++ x :: q)) : St (p ++ d :: q) := by
  have hx' := (isD_iff x).1 hx
  obtain ⟨h1, h2, h3, h4⟩ := h
  match p, h1, h2, h3, h4 with
  | [], h1, h2, h3, h4 => have := h3 x (by simp); omega
  | [a], h1, h2, h3, h4 => have := h3 x (by simp); omega
  | a :: b :: p, h1, h2, h3, h4 =>
    refine ⟨by simpa using h1, ?_, by simpa using h3, ?_⟩
    · simp [List.all_append, alnum, hx, hd] at h2 ⊢
      exact h2
    · simp only [List.getLast?_append, List.getLast?_cons, Option.mem_def] at h4 ⊢
      intro c hc
      have h5 := h4 _ rfl
      simp only [Option.some_or, Option.some.injEq] at hc h5
      subst hc
      cases hq : q.getLast? with
      | none => simpa [hq] using hd
      | some z => simpa [hq] using h5
theorem St_two (p q : List UInt8) (x y : UInt8) (hx : isD x = true) (hy : isD y = true) (h : St (p ++ x :: y :: q)) : St (p ++ y :: x :: q) := by
  have h1 := St_one p (y :: q) x y hx hy h
  have h2 : St ((p ++ [y]) ++ x :: q) := St_one (p ++ [y]) q y x hy hx (by simpa using h1)
  simpa using h2

theorem chk_zero (l : List UInt8) : chk l = 0 ↔ (St l ∧ F l % 10 = 0) := by
  by_cases h : l.length = 12
  · have hg : l.getD 11 0 = l[11]'(by omega) := by rw [List.getD_eq_getElem?_getD, List.getElem?_eq_getElem (by omega), Option.getD_some]
    have hsp := split12 l h
    have hla : l.getLast? = some (l[11]'(by omega)) := by
      have h11 : l.length - 1 = 11 := by omega
      rw [List.getLast?_eq_getElem?, h11, List.getElem?_eq_getElem (by omega)]
    have ht : (l.take 11).length = 11 := by rw [List.length_take]; omega
    unfold chk St
    rw [if_pos h, hg, hla]
    by_cases hd : isD (l[11]'(by omega)) = true
    · rw [if_pos hd]
      have hd' := (isD_iff _).1 hd
      have hr := right_snoc (l.take 11) (l[11]'(by omega)) hd
      rw [← hsp] at hr
      have hal : l.all alnum = (l.take 11).all alnum := by
        have e := congrArg (fun z => List.all z alnum) hsp
        simp only [List.all_append, List.all_cons, List.all_nil, alnum, hd, Bool.or_true, Bool.and_true] at e
        exact e
      have hF : rightB l = (l.all alnum && decide (F l % 10 = 0)) := rfl
      have h2 : l.take 2 = [l[0]'(by omega), l[1]'(by omega)] := by
        match l, h with
        | a :: b :: l, h => rfl
      rw [hF, hal] at hr
      rw [shp_iff _ ht, List.getElem_take, List.getElem_take, hal, h2]
      have hT := T_range (l.take 11)
      by_cases ha : (l.take 11).all alnum = true
      · rw [ha, Bool.true_and, Bool.true_and] at hr
        have hr' : F l % 10 = 0 ↔ ((((l[11]'(by omega)).toNat : Int) - 48) + T (l.take 11)) % 10 = 0 := by
          rw [Bool.eq_iff_iff] at hr; simpa using hr
        rw [hr', ha]
        have hle : (((l[11]'(by omega)).toNat : Int) = last (l.take 11)) ↔ ((((l[11]'(by omega)).toNat : Int) - 48) + T (l.take 11)) % 10 = 0 := by
          unfold last; omega
        by_cases h65 : 65 ≤ (l[0]'(by omega)).toNat ∧ 65 ≤ (l[1]'(by omega)).toNat
        · rw [if_pos (by simp; exact h65)]
          by_cases he : ((l[11]'(by omega)).toNat : Int) = last (l.take 11)
          · rw [if_pos he]
            refine ⟨fun _ => ⟨⟨h, rfl, ?_, ?_⟩, hle.1 he⟩, fun _ => rfl⟩
            · intro c hc; simp at hc; rcases hc with rfl | rfl <;> omega
            · intro c hc; simp at hc; subst hc; exact hd
          · rw [if_neg he]
            exact ⟨fun x => by omega, fun x => absurd (hle.2 x.2) he⟩
        · rw [if_neg (by simp; intro x; exact Nat.not_le.1 fun y => h65 ⟨x, y⟩)]
          refine ⟨fun x => by omega, fun x => absurd ⟨x.1.2.2.1 _ (by simp), x.1.2.2.1 _ (by simp)⟩ h65⟩
      · rw [if_neg (by simp only [Bool.and_eq_true]; exact fun x => ha x.1.1)]
        exact ⟨fun x => by omega, fun x => absurd x.1.2.1 ha⟩
    · rw [if_neg hd]
      exact ⟨fun x => by omega, fun x => absurd (x.1.2.2.2 _ rfl) hd⟩
  · rw [chk_ne l h]
    exact ⟨fun x => by omega, fun x => absurd x.1.1 h⟩

theorem dbl_inj (tw : Bool) (x d : Int) (hx : 0 ≤ x ∧ x ≤ 9) (hd : 0 ≤ d ∧ d ≤ 9) (A B : Int) (h : (A + dbl tw x + B) % 10 = 0) : (A + dbl tw d + B) % 10 = 0 ↔ d = x := by
  cases tw
  · simp only [dbl, Bool.false_eq_true, if_false] at h ⊢; omega
  · simp only [dbl, if_true] at h ⊢; omega
theorem dbl_swap (tw : Bool) (x y : Int) (hx : 0 ≤ x ∧ x ≤ 9) (hy : 0 ≤ y ∧ y ≤ 9) (h09 : ¬ (x = 0 ∧ y = 9)) (h90 : ¬ (x = 9 ∧ y = 0)) (A B : Int) (h : (A + dbl tw y + dbl (!tw) x + B) % 10 = 0) :
    (A + dbl tw x + dbl (!tw) y + B) % 10 = 0 ↔ x = y := by
  have hg : ∀ z : Int, 0 ≤ z ∧ z ≤ 9 → (z ≤ 4 ∧ dbl true z = 2 * z) ∨ (5 ≤ z ∧ dbl true z = 2 * z - 9) := by
    intro z hz; simp only [dbl, if_true]; omega
  have h0 : ∀ z : Int, dbl false z = z := by intro z; simp [dbl]
  have gx := hg x hx
  have gy := hg y hy
  cases tw
  · rw [Bool.not_false, h0] at h ⊢
    generalize dbl true x = X at *
    generalize dbl true y = Y at *
    rcases gx with ⟨x1, rfl⟩ | ⟨x1, rfl⟩ <;> rcases gy with ⟨y1, rfl⟩ | ⟨y1, rfl⟩ <;> omega
  · rw [Bool.not_true, h0] at h ⊢
    generalize dbl true x = X at *
    generalize dbl true y = Y at *
    rcases gx with ⟨x1, rfl⟩ | ⟨x1, rfl⟩ <;> rcases gy with ⟨y1, rfl⟩ | ⟨y1, rfl⟩ <;> omega

theorem slip_one (p q : List UInt8) (x d : UInt8) (hx : isD x = true) (hd : isD d = true) (h : chk (p ++ x :: q) = 0) : chk (p ++ d :: q) = 0 ↔ d.toNat = x.toNat := by
  obtain ⟨hs, hf⟩ := (chk_zero _).1 h
  obtain ⟨A, B, tw, hF⟩ := F_one p q
  have hx' := (isD_iff x).1 hx
  have hd' := (isD_iff d).1 hd
  rw [hF x hx] at hf
  rw [chk_zero, hF d hd, dbl_inj tw _ _ (by omega) (by omega) A B hf]
  exact ⟨fun z => by omega, fun z => ⟨St_one p q x d hx hd hs, by omega⟩⟩
theorem slip_two (p q : List UInt8) (x y : UInt8) (hx : isD x = true) (hy : isD y = true) (h09 : ¬ (x.toNat = 48 ∧ y.toNat = 57)) (h90 : ¬ (x.toNat = 57 ∧ y.toNat = 48)) (h : chk (p ++ x :: y :: q) = 0) :
    chk (p ++ y :: x :: q) = 0 ↔ x.toNat = y.toNat := by
  obtain ⟨hs, hf⟩ := (chk_zero _).1 h
  obtain ⟨A, B, tw, hF⟩ := F_two p q
  have hx' := (isD_iff x).1 hx
  have hy' := (isD_iff y).1 hy
  rw [hF x y hx hy] at hf
  rw [chk_zero, hF y x hy hx, dbl_swap tw _ _ (by omega) (by omega) (by omega) (by omega) A B hf]
  exact ⟨fun z => by omega, fun z => ⟨St_two p q x y hx hy hs, by omega⟩⟩

end Go.Proofs.Ytabnpmojccepcaa.Facts
