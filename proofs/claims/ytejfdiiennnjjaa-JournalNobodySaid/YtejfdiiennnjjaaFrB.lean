/- What Next, of the program and of the document, comes to for every text. -/
import Derived.Test.YtejfdiiennnjjaaFrA
namespace Go.Proofs.Ytejfdiiennnjjaa.Facts
open Go.RowKit Go.Proofs.Ytejfdiiennnjjaa.F Go.Proofs.YtejfdiiennnjjaaW.PrintWords Go.Proofs.YtejfdiiennnjjaaW.PrintLast Go.Proofs.YtejfdiiennnjjaaW.PrintMore
set_option linter.unusedVariables false

theorem Ev.from {α : Type} {g : Nat → Option α} {r : α} (K : Nat) (h : ∀ m, K ≤ m → g (m + 1) = some r) : Ev g r := by
  refine ⟨K + 1, fun n hn => ?_⟩
  obtain ⟨m, rfl⟩ : ∃ m, n = m + 1 := ⟨n - 1, by omega⟩
  exact h m (by omega)

theorem Next_tail (s : ByteArray) (hs : s.size ≤ 1099511627776) (x : Int) (h8 : ¬ x < mn (s.size : Int) 8) :
    Ev (fun k => frame_Next.l0 k s x) (if s.size < 8 then (S [], 0, 14)
    else if 4096 < numL (L s) then (S [], 0, 15)
    else if s.size < numL (L s) + 12 then (S [], 0, 14)
    else if numL ((L s).drop (8 + numL (L s))) = sumN (((L s).drop 8).take (numL (L s))) then (S (((L s).drop 8).take (numL (L s))), ((numL (L s) + 12 : Nat) : Int), 0)
    else (S [], 0, 15)) := by
  have hnl := numL_lt (L s)
  by_cases h1 : s.size < 8
  · rw [if_pos h1]
    refine Ev.step (f := fun _ => some (S [], 0, 14)) (fun k => ?_) (Ev.now _)
    rw [frame_Next.l0, if_neg h8, if_pos (by omega), empty_S]
  · rw [if_neg h1]
    have hnum := number_eq s (by omega)
    have e1 : wrap64 (numL (L s) : Int) = (numL (L s) : Int) := w64 (by omega) (by omega)
    have e2 : wrap64 (8 + (numL (L s) : Int)) = ((8 + numL (L s) : Nat) : Int) := by rw [w64 (by omega) (by omega)]; push_cast; rfl
    have e3 : wrap64 (((8 + numL (L s) : Nat) : Int) + 4) = ((numL (L s) + 12 : Nat) : Int) := by rw [w64 (by omega) (by omega)]; push_cast; omega
    by_cases h2 : 4096 < numL (L s)
    · rw [if_pos h2]
      refine Ev.step (f := fun _ => some (S [], 0, 15)) (fun k => ?_) (Ev.now _)
      rw [frame_Next.l0, if_neg h8, if_neg (by omega), hnum, Option.bind_some, e1, if_pos (by omega), empty_S]
    · rw [if_neg h2]
      by_cases h3 : s.size < numL (L s) + 12
      · rw [if_pos h3]
        refine Ev.step (f := fun _ => some (S [], 0, 14)) (fun k => ?_) (Ev.now _)
        rw [frame_Next.l0, if_neg h8, if_neg (by omega), hnum, Option.bind_some, e1, e2, e3, if_neg (by omega), if_pos (by omega), empty_S]
      · rw [if_neg h3]
        have hx1 : L (s.extract 8 (8 + numL (L s))) = ((L s).drop 8).take (numL (L s)) := by
          rw [L_extract, List.drop_take]
          congr 1; omega
        have hx2 : L (s.extract (8 + numL (L s)) s.size) = (L s).drop (8 + numL (L s)) := by
          rw [L_extract, ← L_len, List.take_length]
        have hn2 := number_eq (s.extract (8 + numL (L s)) s.size) (by rw [← L_len, hx2, List.length_drop, L_len]; omega)
        rw [hx2] at hn2
        have hsum := Sum_ev (s.extract 8 (8 + numL (L s))) (by rw [← L_len, hx1, List.length_take]; omega)
        rw [hx1] at hsum
        have er := eq_S hx1
        obtain ⟨K, hK⟩ := hsum
        refine Ev.from K (fun m hm => ?_)
        have hk : frame_Sum.f m (s.extract 8 (8 + numL (L s))) = some (sumN (((L s).drop 8).take (numL (L s))) : Int) := hK m hm
        rw [frame_Next.l0, if_neg h8, if_neg (by omega), hnum, Option.bind_some, e1, e2, e3, Int.toNat_natCast, if_neg (by omega), if_neg (by omega), if_pos (by omega), if_pos (by omega), if_pos (by omega), hn2, Option.bind_some, hk, Option.bind_some, empty_S, er]
        by_cases h4 : numL ((L s).drop (8 + numL (L s))) = sumN (((L s).drop 8).take (numL (L s)))
        · rw [if_pos h4, if_pos (by rw [h4])]
        · rw [if_neg h4, if_neg (by omega)]

theorem Next_round (s : ByteArray) (i u1 u2 k : Nat) (hi : i < s.size) (hs : s.size ≤ 1099511627776) (h4 : 4 ≤ i) (h8 : i < 8) (hb1 : bt s (i : Int) = (u1 : Int)) (hb2 : bt s ((i - 4 : Nat) : Int) = (u2 : Int)) (l2 : u2 < 256) :
    frame_Next.l0 (k + 1) s (i : Int) = if u1 + u2 = 255 then frame_Next.l0 k s ((i + 1 : Nat) : Int) else some (S [], 0, 15) := by
  have hm : (i : Int) < mn (s.size : Int) 8 := by unfold mn; split <;> omega
  have e4 : wrap64 ((i : Int) - 4) = ((i - 4 : Nat) : Int) := by rw [w64 (by omega) (by omega)]; omega
  have e5 : wrap64 ((i : Int) + 1) = ((i + 1 : Nat) : Int) := by rw [w64 (by omega) (by omega)]; omega
  have g1 : (0 : Int) ≤ (i : Int) := by omega
  have g2 : (i : Int) < (s.size : Int) := by omega
  have g3 : (0 : Int) ≤ ((i - 4 : Nat) : Int) := by omega
  have g4 : ((i - 4 : Nat) : Int) < (s.size : Int) := by omega
  rw [frame_Next.l0, if_pos hm, if_pos g1, if_pos g2, e4, if_pos g3, if_pos g4, hb1, hb2, not8 _ l2, e5, empty_S]
  by_cases h : u1 + u2 = 255
  · have g5 : (u1 : Int) = 255 - (u2 : Int) := by omega
    rw [if_pos g5, if_pos h]
  · have g5 : ¬ (u1 : Int) = 255 - (u2 : Int) := by omega
    rw [if_neg g5, if_neg h]

theorem Next_l0 (s : ByteArray) (hs : s.size ≤ 1099511627776) (out : ByteArray × Int × Int) (hout : ∀ x : Int, ¬ x < mn (s.size : Int) 8 → Ev (fun k => frame_Next.l0 k s x) out) :
    ∀ (d i : Nat), i + d = 8 → 4 ≤ i → Ev (fun k => frame_Next.l0 k s (i : Int)) (if hdrFrom (L s) d i = true then out else (S [], 0, 15)) := by
  intro d
  induction d with
  | zero =>
    intro i h h4
    simp only [hdrFrom, if_true]
    exact hout _ (by unfold mn; split <;> omega)
  | succ d ih =>
    intro i h h4
    unfold hdrFrom
    rw [L_len]
    by_cases hi : i < s.size
    · rw [if_pos hi]
      have l2 : ((L s).getD (i - 4) 0).toNat < 256 := ((L s).getD (i - 4) 0).toNat_lt
      have hr := fun k => Next_round s i _ _ k hi hs h4 (by omega) (bt_getD s i hi) (bt_getD s (i - 4) (by omega)) l2
      have ih' := ih (i + 1) (by omega) (by omega)
      by_cases he : ((L s).getD i 0).toNat + ((L s).getD (i - 4) 0).toNat = 255
      · rw [decide_eq_true he, Bool.true_and]
        exact Ev.step (fun k => (hr k).trans (if_pos he)) ih'
      · rw [decide_eq_false he, Bool.false_and, if_neg (by simp)]
        exact Ev.step (fun k => (hr k).trans (if_neg he)) (Ev.now _)
    · rw [if_neg hi, if_pos rfl]
      exact hout _ (by unfold mn; split <;> omega)

theorem Next_ev (s : ByteArray) (hs : s.size ≤ 1099511627776) : Ev (fun k => frame_Next.f k s) (nextL (L s)) := by
  have h := Next_l0 s hs _ (Next_tail s hs) 4 4 rfl (by omega)
  unfold nextL hdr
  rw [L_len]
  exact h

end Go.Proofs.Ytejfdiiennnjjaa.Facts
