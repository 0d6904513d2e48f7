/- What the document's Next comes to for every text; and that it is the same. -/
import Derived.Test.YtejfdiiennnjjaaFrB
namespace Go.Proofs.Ytejfdiiennnjjaa.Facts
open Go.RowKit Go.Proofs.Ytejfdiiennnjjaa.F Go.Proofs.YtejfdiiennnjjaaW.PrintWords Go.Proofs.YtejfdiiennnjjaaW.PrintLast Go.Proofs.YtejfdiiennnjjaaW.PrintMore
set_option linter.unusedVariables false

theorem eight_cases (l : List UInt8) (h : 8 ≤ l.length) : ∃ a b c d e f g i r, l = a :: b :: c :: d :: e :: f :: g :: i :: r := by
  match l, h with
  | a :: b :: c :: d :: e :: f :: g :: i :: r, _ => exact ⟨a, b, c, d, e, f, g, i, r, rfl⟩
theorem hdr_eight (a b c d e f g i : UInt8) (r : List UInt8) : hdr (a :: b :: c :: d :: e :: f :: g :: i :: r) = true ↔
    e.toNat + a.toNat = 255 ∧ f.toNat + b.toNat = 255 ∧ g.toNat + c.toNat = 255 ∧ i.toNat + d.toNat = 255 := by
  simp [hdr, hdrFrom]
/-- The bytes behind a length that is told right. -/
theorem turned (a b c d e f g i : UInt8) (r : List UInt8) (h1 : e.toNat + a.toNat = 255) (h2 : f.toNat + b.toNat = 255) (h3 : g.toNat + c.toNat = 255) (h4 : i.toNat + d.toNat = 255) :
    fourL (4294967295 - numL (a :: b :: c :: d :: e :: f :: g :: i :: r)) = [e, f, g, i] := by
  have ha := a.toNat_lt; have hb := b.toNat_lt; have hc := c.toNat_lt; have hd := d.toNat_lt
  unfold fourL numL
  simp only
  rw [ofNat_of e _ (by omega), ofNat_of f _ (by omega), ofNat_of g _ (by omega), ofNat_of i _ (by omega)]

theorem take4 (l : List UInt8) (h : 4 ≤ l.length) : fourL (numL l) = l.take 4 := by
  obtain ⟨a, b, c, d, r, rfl⟩ := four_cases l h
  rw [fourL_numL]; rfl
theorem numL_take (l : List UInt8) (h : 4 ≤ l.length) : numL (l.take 4) = numL l := by
  obtain ⟨a, b, c, d, r, rfl⟩ := four_cases l h
  rfl

/-- A text begins with a record laid just so, or it does not. -/
theorem put_take (l : List UInt8) (h8 : 8 ≤ l.length) (hh : hdr l = true) (n : Nat) (hn : n = numL l) (hl : n + 12 ≤ l.length) :
    (putL ((l.drop 8).take n) = l.take (n + 12)) ↔ numL (l.drop (8 + n)) = sumN ((l.drop 8).take n) := by
  have hlen : ((l.drop 8).take n).length = n := by rw [List.length_take, List.length_drop]; omega
  have e1 : l.take (n + 12) = l.take 8 ++ (((l.drop 8).take n) ++ (l.drop (8 + n)).take 4) := by
    rw [show n + 12 = 8 + (n + 4) by omega, List.take_add, List.take_add, List.drop_drop]
  have e2 : fourL n ++ fourL (4294967295 - n) = l.take 8 := by
    obtain ⟨a, b, c, d, e, f, g, i, r, rfl⟩ := eight_cases l h8
    obtain ⟨h1, h2, h3, h4⟩ := (hdr_eight a b c d e f g i r).1 hh
    rw [hn, turned a b c d e f g i r h1 h2 h3 h4, fourL_numL]; rfl
  have e3 : putL ((l.drop 8).take n) = l.take 8 ++ (((l.drop 8).take n) ++ fourL (sumN ((l.drop 8).take n))) := by
    unfold putL
    rw [hlen, ← List.append_assoc, e2]
  rw [e1, e3]
  have h4 : 4 ≤ (l.drop (8 + n)).length := by rw [List.length_drop]; omega
  constructor
  · intro h
    have h := List.append_cancel_left (List.append_cancel_left h)
    have hx := numL_fourL (sumN ((l.drop 8).take n)) (sumN_lt _) []
    rw [List.append_nil, h, numL_take _ h4] at hx
    exact hx
  · intro h
    rw [← h, take4 _ h4]

theorem RNum (s : ByteArray) (h : 4 ≤ s.size) : wrap64 (wrap64 (wrap64 (wrap64 (bt s 0) + wrap64 (256 * wrap64 (bt s 1))) + wrap64 (65536 * wrap64 (bt s 2))) + wrap64 (16777216 * wrap64 (bt s 3))) = (numL (L s) : Int) := by
  obtain ⟨a, b, c, d, r, hl⟩ := four_cases (L s) (by rw [L_len]; exact h)
  obtain ⟨e0, e1, e2, e3⟩ := bts s a b c d r hl
  have ha := a.toNat_lt; have hb := b.toNat_lt; have hc := c.toNat_lt; have hd := d.toNat_lt
  rw [e0, e1, e2, e3, hl]
  unfold numL
  simp only
  generalize a.toNat = a at *
  generalize b.toNat = b at *
  generalize c.toNat = c at *
  generalize d.toNat = d at *
  rw [w64 (i := (a : Int)) (by omega) (by omega), w64 (i := (b : Int)) (by omega) (by omega), w64 (i := (c : Int)) (by omega) (by omega), w64 (i := (d : Int)) (by omega) (by omega)]
  rw [w64 (i := 256 * (b : Int)) (by omega) (by omega), w64 (i := 65536 * (c : Int)) (by omega) (by omega), w64 (i := 16777216 * (d : Int)) (by omega) (by omega)]
  rw [w64 (i := (a : Int) + 256 * (b : Int)) (by omega) (by omega), w64 (i := (a : Int) + 256 * (b : Int) + 65536 * (c : Int)) (by omega) (by omega), w64 (by omega) (by omega)]
  omega

theorem RNext_tail (s : ByteArray) (hs : s.size ≤ 1099511627776) (hh : hdr (L s) = true) (x : Int) :
    Ev (fun k => lombardref07_Next.j1 k s x false) (if s.size < 8 then (S [], 0, 14)
    else if 4096 < numL (L s) then (S [], 0, 15)
    else if s.size < numL (L s) + 12 then (S [], 0, 14)
    else if numL ((L s).drop (8 + numL (L s))) = sumN (((L s).drop 8).take (numL (L s))) then (S (((L s).drop 8).take (numL (L s))), ((numL (L s) + 12 : Nat) : Int), 0)
    else (S [], 0, 15)) := by
  have hnl := numL_lt (L s)
  by_cases h1 : s.size < 8
  · rw [if_pos h1]
    refine Ev.step (f := fun _ => some (S [], 0, 14)) (fun k => ?_) (Ev.now _)
    rw [lombardref07_Next.j1, if_neg (by simp), if_pos (by omega), empty_S]
  · rw [if_neg h1]
    have hnum := RNum s (by omega)
    have e2 : wrap64 (8 + (numL (L s) : Int)) = ((8 + numL (L s) : Nat) : Int) := by rw [w64 (by omega) (by omega)]; omega
    have e3 : wrap64 ((numL (L s) : Int) + 12) = ((numL (L s) + 12 : Nat) : Int) := by rw [w64 (by omega) (by omega)]; omega
    have g0 : (0 : Int) < (s.size : Int) := by omega
    have g1 : (1 : Int) < (s.size : Int) := by omega
    have g2 : (2 : Int) < (s.size : Int) := by omega
    have g3 : (3 : Int) < (s.size : Int) := by omega
    have g8 : ¬ (s.size : Int) < 8 := by omega
    by_cases h2 : 4096 < numL (L s)
    · rw [if_pos h2]
      have g : (numL (L s) : Int) > 4096 := by omega
      refine Ev.step (f := fun _ => some (S [], 0, 15)) (fun k => ?_) (Ev.now _)
      rw [lombardref07_Next.j1, if_neg (by simp), if_neg g8, if_pos g0, if_pos g1, if_pos g2, if_pos g3, hnum, if_pos g, empty_S]
    · rw [if_neg h2]
      have g : ¬ (numL (L s) : Int) > 4096 := by omega
      by_cases h3 : s.size < numL (L s) + 12
      · rw [if_pos h3]
        have g' : (s.size : Int) < ((numL (L s) + 12 : Nat) : Int) := by omega
        refine Ev.step (f := fun _ => some (S [], 0, 14)) (fun k => ?_) (Ev.now _)
        rw [lombardref07_Next.j1, if_neg (by simp), if_neg g8, if_pos g0, if_pos g1, if_pos g2, if_pos g3, hnum, if_neg g, e3, if_pos g', empty_S]
      · rw [if_neg h3]
        have g' : ¬ (s.size : Int) < ((numL (L s) + 12 : Nat) : Int) := by omega
        have g4 : (8 : Int) ≤ ((8 + numL (L s) : Nat) : Int) := by omega
        have g5 : ((8 + numL (L s) : Nat) : Int) ≤ (s.size : Int) := by omega
        have g6 : (0 : Int) ≤ ((numL (L s) + 12 : Nat) : Int) := by omega
        have g7 : ((numL (L s) + 12 : Nat) : Int) ≤ (s.size : Int) := by omega
        have hx1 : L (s.extract 8 (8 + numL (L s))) = ((L s).drop 8).take (numL (L s)) := by
          rw [L_extract, List.drop_take, show 8 + numL (L s) - 8 = numL (L s) by omega]
        have hx2 : L (s.extract 0 (numL (L s) + 12)) = (L s).take (numL (L s) + 12) := by
          rw [L_extract, List.drop_zero]
        have hput := RPut_ev (s.extract 8 (8 + numL (L s))) (by rw [← L_len, hx1, List.length_take]; omega)
        have hps : putS (L (s.extract 8 (8 + numL (L s)))) = (S (putL (((L s).drop 8).take (numL (L s)))), 0) := by
          unfold putS
          rw [hx1, if_pos (by rw [List.length_take]; omega)]
        rw [hps] at hput
        have er := eq_S hx1
        have hpt := put_take (L s) (by rw [L_len]; omega) hh _ rfl (by rw [L_len]; omega)
        obtain ⟨K, hK⟩ := hput
        refine Ev.from K (fun m hm => ?_)
        have hk : lombardref07_Put.f m (s.extract 8 (8 + numL (L s))) = some (S (putL (((L s).drop 8).take (numL (L s)))), 0) := hK m hm
        rw [lombardref07_Next.j1, if_neg (by simp), if_neg g8, if_pos g0, if_pos g1, if_pos g2, if_pos g3, hnum, if_neg g, e3, if_neg g', e2, if_pos g4, if_pos g5, Int.toNat_natCast, hk, Option.bind_some, if_pos g6, if_pos g7, Int.toNat_natCast, toList_S, toList_L, hx2, empty_S, er]
        by_cases h4 : numL ((L s).drop (8 + numL (L s))) = sumN (((L s).drop 8).take (numL (L s)))
        · rw [if_pos h4, if_pos (hpt.2 h4)]
        · rw [if_neg h4, if_neg (fun h => h4 (hpt.1 h))]

theorem RNext_round (s : ByteArray) (i u1 u2 k : Nat) (hi : i < s.size) (hs : s.size ≤ 1099511627776) (h4 : 4 ≤ i) (h8 : i < 8) (hb1 : bt s (i : Int) = (u1 : Int)) (hb2 : bt s ((i - 4 : Nat) : Int) = (u2 : Int)) (l1 : u1 < 256) (l2 : u2 < 256) :
    lombardref07_Next.l0 (k + 1 + 1) s (i : Int) = if u1 + u2 = 255 then lombardref07_Next.l0 k s ((i + 1 : Nat) : Int) else some (S [], 0, 15) := by
  have e4 : wrap64 ((i : Int) - 4) = ((i - 4 : Nat) : Int) := by rw [w64 (by omega) (by omega)]; omega
  have e5 : wrap64 ((i : Int) + 1) = ((i + 1 : Nat) : Int) := by rw [w64 (by omega) (by omega)]; omega
  have e6 : wrap64 (wrap64 (u1 : Int) + wrap64 (u2 : Int)) = ((u1 + u2 : Nat) : Int) := by
    rw [w64 (i := (u1 : Int)) (by omega) (by omega), w64 (i := (u2 : Int)) (by omega) (by omega), w64 (by omega) (by omega)]; omega
  have g0 : (i : Int) < 8 := by omega
  have g1 : (0 : Int) ≤ (i : Int) := by omega
  have g2 : (i : Int) < (s.size : Int) := by omega
  have g3 : (0 : Int) ≤ ((i - 4 : Nat) : Int) := by omega
  have g4 : ((i - 4 : Nat) : Int) < (s.size : Int) := by omega
  rw [lombardref07_Next.l0, if_pos g0, decide_eq_true g2, lombardref07_Next.j1, if_pos rfl, if_pos g1, if_pos g2, e4, if_pos g3, if_pos g4, hb1, hb2, e6, e5, empty_S]
  by_cases h : u1 + u2 = 255
  · have g5 : ((u1 + u2 : Nat) : Int) = 255 := by omega
    rw [if_pos g5, if_pos h]
  · have g5 : ¬ ((u1 + u2 : Nat) : Int) = 255 := by omega
    rw [if_neg g5, if_neg h]
theorem RNext_end (s : ByteArray) (i k : Nat) (h : 8 ≤ i ∨ s.size ≤ i) :
    lombardref07_Next.l0 (k + 1) s (i : Int) = lombardref07_Next.j1 k s (i : Int) false := by
  rw [lombardref07_Next.l0]
  by_cases g : (i : Int) < 8
  · rw [if_pos g, decide_eq_false (by omega)]
  · rw [if_neg g]

theorem RNext_l0 (s : ByteArray) (hs : s.size ≤ 1099511627776) (out : ByteArray × Int × Int) (P : Prop) (hout : P → ∀ x : Int, Ev (fun k => lombardref07_Next.j1 k s x false) out) :
    ∀ (d i : Nat), i + d = 8 → 4 ≤ i → (hdrFrom (L s) d i = true → P) → Ev (fun k => lombardref07_Next.l0 k s (i : Int)) (if hdrFrom (L s) d i = true then out else (S [], 0, 15)) := by
  intro d
  induction d with
  | zero =>
    intro i h h4 hp
    rw [if_pos (by rfl)]
    exact Ev.step (fun k => RNext_end s i k (by omega)) (hout (hp rfl) _)
  | succ d ih =>
    intro i h h4
    unfold hdrFrom
    rw [L_len]
    intro hp
    by_cases hi : i < s.size
    · rw [if_pos hi] at hp ⊢
      have l1 : ((L s).getD i 0).toNat < 256 := ((L s).getD i 0).toNat_lt
      have l2 : ((L s).getD (i - 4) 0).toNat < 256 := ((L s).getD (i - 4) 0).toNat_lt
      have hr := fun k => RNext_round s i _ _ k hi hs h4 (by omega) (bt_getD s i hi) (bt_getD s (i - 4) (by omega)) l1 l2
      by_cases he : ((L s).getD i 0).toNat + ((L s).getD (i - 4) 0).toNat = 255
      · rw [decide_eq_true he, Bool.true_and] at hp ⊢
        have ih' := ih (i + 1) (by omega) (by omega) hp
        obtain ⟨K, hK⟩ := ih'
        refine ⟨K + 2, fun n hn => ?_⟩
        obtain ⟨m, rfl⟩ : ∃ m, n = m + 1 + 1 := ⟨n - 2, by omega⟩
        exact (hr m).trans ((if_pos he).trans (hK m (by omega)))
      · rw [decide_eq_false he, Bool.false_and, if_neg (by simp)]
        refine ⟨2, fun n hn => ?_⟩
        obtain ⟨m, rfl⟩ : ∃ m, n = m + 1 + 1 := ⟨n - 2, by omega⟩
        exact (hr m).trans (if_neg he)
    · rw [if_neg hi] at hp
      rw [if_neg hi, if_pos rfl]
      exact Ev.step (fun k => RNext_end s i k (by omega)) (hout (hp rfl) _)

theorem RNext_ev (s : ByteArray) (hs : s.size ≤ 1099511627776) : Ev (fun k => lombardref07_Next.f k s) (nextL (L s)) := by
  have h := RNext_l0 s hs _ (hdr (L s) = true) (RNext_tail s hs) 4 4 rfl (by omega) (fun h => h)
  unfold nextL hdr
  rw [L_len]
  exact h

end Go.Proofs.Ytejfdiiennnjjaa.Facts
