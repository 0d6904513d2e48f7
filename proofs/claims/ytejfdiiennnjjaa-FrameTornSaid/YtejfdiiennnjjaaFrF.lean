/- Of a beginning of records just those are read that are whole in it; FrameTorn comes to true. -/
import Derived.Test.YtejfdiiennnjjaaFrE
import Derived.Test.YtejfdiiennnjjaaTx
import Derived.Laws.Bits64
import Derived.Lib.Hide
namespace Go.Proofs.Ytejfdiiennnjjaa.Facts
open Go.RowKit Go.Proofs.Ytejfdiiennnjjaa.F Go.Proofs.YtejfdiiennnjjaaW.PrintWords Go.Proofs.YtejfdiiennnjjaaW.PrintLast Go.Proofs.YtejfdiiennnjjaaW.PrintMore Go.Proofs.Ytejfdiiennnjjaa
set_option linter.unusedVariables false

theorem getD_take (p : List UInt8) (k i : Nat) (h : i < (p.take k).length) : (p.take k).getD i 0 = p.getD i 0 := by
  rw [List.length_take] at h
  rw [List.getD_eq_getElem?_getD, List.getD_eq_getElem?_getD, List.getElem?_take_of_lt (by omega)]
theorem hdrFrom_take (p : List UInt8) (k : Nat) : ∀ (d i : Nat), hdrFrom p d i = true → hdrFrom (p.take k) d i = true := by
  intro d
  induction d with
  | zero => intro i h; rfl
  | succ d ih =>
    intro i h
    unfold hdrFrom at h ⊢
    by_cases hi : i < (p.take k).length
    · have hip : i < p.length := by rw [List.length_take] at hi; omega
      rw [if_pos hip, Bool.and_eq_true] at h
      rw [if_pos hi, Bool.and_eq_true, getD_take p k i hi, getD_take p k (i - 4) (by omega)]
      exact ⟨h.1, ih _ h.2⟩
    · rw [if_neg hi]

theorem nextL_torn (r rest : List UInt8) (hr : r.length ≤ 4096) (k : Nat) (hk : k < r.length + 12) : nextL ((putL r ++ rest).take k) = (S [], 0, 14) := by
  have hh : hdr (putL r ++ rest) = true := by
    unfold putL; rw [List.append_assoc, List.append_assoc]; exact hdr_put _ (by omega) _
  have hh' : hdr ((putL r ++ rest).take k) = true := hdrFrom_take _ k 4 4 hh
  have hlen : ((putL r ++ rest).take k).length = k := by rw [List.length_take, List.length_append, putL_len]; omega
  unfold nextL
  rw [if_pos hh', hlen]
  by_cases h8 : k < 8
  · rw [if_pos h8]
  · have hn : numL ((putL r ++ rest).take k) = r.length := by
      have e : numL (((putL r ++ rest).take k).take 4) = numL ((putL r ++ rest).take k) := numL_take _ (by rw [hlen]; omega)
      rw [← e, List.take_take, Nat.min_eq_left (by omega), numL_take _ (by rw [List.length_append, putL_len]; omega)]
      unfold putL; rw [List.append_assoc]; exact numL_fourL _ (by omega) _
    rw [if_neg h8, hn, if_neg (by omega), if_pos hk]

theorem readL_torn (l : List ByteArray) : okAll l = true → ∀ k, k ≤ laid l → ∃ n, n ≤ l.length ∧ laid (l.take n) ≤ k ∧ (∀ h : n < l.length, k < laid (l.take n) + l[n].size + 12) ∧
    readL ((flat l).take k) = (l.take n, laid (l.take n), if laid (l.take n) = k then 0 else 14) := by
  induction l with
  | nil =>
    intro _ k hk
    have hk0 : k = 0 := by simpa [laid] using hk
    subst hk0
    refine ⟨0, Nat.le_refl _, Nat.le_refl _, fun h => absurd h (by simp), ?_⟩
    rw [readL_eq, if_pos (by rfl)]; rfl
  | cons s l ih =>
    intro h k hk
    have hs : s.size ≤ 4096 ∧ okAll l = true := by
      unfold okAll at h ⊢; rw [List.all_cons, Bool.and_eq_true, decide_eq_true_eq] at h; exact h
    have hf : flat (s :: l) = putL (L s) ++ flat l := by simp [flat]
    have hlen : (putL (L s)).length = s.size + 12 := by rw [putL_len, L_len]
    have hlaid : laid (s :: l) = s.size + 12 + laid l := by simp [laid]
    by_cases hk2 : s.size + 12 ≤ k
    · obtain ⟨n, hn, h1, h2, h3⟩ := ih hs.2 (k - (s.size + 12)) (by omega)
      have ht : (flat (s :: l)).take k = putL (L s) ++ (flat l).take (k - (s.size + 12)) := by
        rw [hf, List.take_append, hlen, List.take_of_length_le (by omega)]
      have hne : ¬ (flat (s :: l)).take k = [] := fun e => by
        rw [ht] at e
        have := List.append_eq_nil_iff.1 e
        rw [this.1] at hlen; simp at hlen
      have hN := nextL_put (L s) ((flat l).take (k - (s.size + 12))) (by rw [L_len]; exact hs.1)
      have hd : ((flat (s :: l)).take k).drop (s.size + 12) = (flat l).take (k - (s.size + 12)) := by rw [ht, ← hlen, List.drop_left]
      have hl1 : laid ((s :: l).take (n + 1)) = s.size + 12 + laid (l.take n) := by rw [List.take_succ_cons]; simp [laid]
      refine ⟨n + 1, by simp; omega, by rw [hl1]; omega, fun hh => ?_, ?_⟩
      · have := h2 (by simpa using hh)
        rw [hl1]
        simp only [List.getElem_cons_succ]
        omega
      · rw [← ht] at hN
        rw [readL_eq, if_neg hne, hN, if_pos rfl, Int.toNat_natCast, L_len, hd, h3, S_L, hl1, List.take_succ_cons]
        by_cases he : laid (l.take n) = k - (s.size + 12)
        · rw [if_pos he, if_pos (by omega)]
        · rw [if_neg he, if_neg (by omega)]
    · refine ⟨0, by omega, by simp [laid], fun _ => ?_, ?_⟩
      · simp [laid]; omega
      · by_cases hk0 : k = 0
        · subst hk0
          rw [readL_eq, if_pos (by rfl)]; rfl
        · have hN := nextL_torn (L s) (flat l) (by rw [L_len]; exact hs.1) k (by rw [L_len]; omega)
          rw [← hf] at hN
          have hne : ¬ (flat (s :: l)).take k = [] := fun e => by
            have h5 : ((flat (s :: l)).take k).length = k := by rw [List.length_take, hf, List.length_append, hlen]; omega
            rw [e] at h5; simp at h5; omega
          rw [readL_eq, if_neg hne, hN, if_neg (by decide)]
          rw [if_neg (by simp [laid]; omega)]; rfl

theorem torn_sum (e z : Nat) (he : e ≤ 140737488351232) (hz : z ≤ 140737488351232) : wrap64 (wrap64 ((e : Int) + (z : Int)) + 12) = (e : Int) + (z : Int) + 12 := by
  rw [w64 (i := (e : Int) + (z : Int)) (by omega) (by omega), w64 (by omega) (by omega)]
theorem torn_next (i : Nat) (h : i ≤ 140737488351232) : wrap64 ((i : Int) + 1) = ((i + 1 : Nat) : Int) := by rw [w64 (by omega) (by omega)]; omega
theorem torn_not (e z : Nat) (k : Int) (h : k < (e : Int) + (z : Int) + 12) : ¬ (e : Int) + (z : Int) + 12 ≤ k := by omega

theorem torn_end (l rs : List ByteArray) (k : Int) (at' err : Int) (n : Nat) (e : Nat) (hn : n ≤ l.length) (hl : l.length ≤ 140737488351232) (hr : rs = l.take n) (ha : at' = (e : Int)) (herr : err = if (e : Int) = k then 0 else 14)
    (he : e ≤ 140737488351232) (hstop : ∀ h : n < l.length, k < (e : Int) + (l[n].size : Int) + 12) (hsz : ∀ s ∈ l, s.size ≤ 140737488351232) :
    Ev (fun m => T.lombardlaw07_FrameTorn.l0 m l k rs at' err (n : Int) (e : Int)) true := by
  obtain ⟨KA, hA⟩ := awake_end
  obtain ⟨KT, hT⟩ := Texts_ev rs (l.take n) (by rw [hr, List.length_take]; omega)
  rw [decide_eq_true hr] at hT
  have g0 : (0 : Int) ≤ (n : Int) := by omega
  have g1 : (n : Int) ≤ (l.length : Int) := by omega
  have g2 : ((err == 0) == ((e : Int) == k)) = true := by
    rw [herr]
    by_cases h : (e : Int) = k
    · rw [if_pos h, beq_iff_eq.2 h]; rfl
    · rw [if_neg h, beq_eq_false_iff_ne.2 h]; rfl
  refine Ev.from (max KA KT) (fun m hm => ?_)
  have k1 : F.lombardref07_Texts.f m rs (l.take n) = some true := hT m (by omega)
  have hfin : (if err = 0 then ((F.lombardlaw07_awake.f m).bind fun t => (some t)) else (if err = 14 then ((F.lombardlaw07_awake.f m).bind fun t => (some t)) else (some false))) = some true := by
    by_cases h0 : err = 0
    · rw [if_pos h0]; exact hA m (by omega)
    · have h14 : err = 14 := by
        rw [herr] at h0 ⊢
        by_cases h : (e : Int) = k
        · rw [if_pos h] at h0; exact absurd rfl h0
        · rw [if_neg h]
      rw [if_neg h0, if_pos h14]; exact hA m (by omega)
  rw [T.lombardlaw07_FrameTorn.l0]
  by_cases c1 : (n : Int) < (l.length : Int)
  · have hlt : n < l.length := by omega
    have hsx := hsz l[n] (List.getElem_mem hlt)
    have er : rdOf ByteArray.empty l (n : Int) = l[n] := by
      unfold rdOf
      rw [Int.toNat_natCast, List.getD_eq_getElem?_getD, List.getElem?_eq_getElem hlt, Option.getD_some]
    have hw := torn_sum e l[n].size he hsx
    have g3 := torn_not e l[n].size k (hstop hlt)
    rw [if_pos c1, if_pos g0, er, hw, if_neg g3, if_pos g1, Int.toNat_natCast, k1, Option.bind_some, if_pos rfl, if_pos ha, if_pos g2]
    exact hfin
  · rw [if_neg c1, if_pos g0, if_pos g1, Int.toNat_natCast, k1, Option.bind_some, if_pos rfl, if_pos ha, if_pos g2]
    exact hfin

theorem torn_loop (l rs : List ByteArray) (k at' err : Int) (n : Nat) (hn : n ≤ l.length) (hll : laid l ≤ 140737488351232) (hk : (laid (l.take n) : Int) ≤ k)
    (hend : Ev (fun m => T.lombardlaw07_FrameTorn.l0 m l k rs at' err (n : Int) (laid (l.take n) : Int)) true) :
    ∀ (d i : Nat), i + d = n → Ev (fun m => T.lombardlaw07_FrameTorn.l0 m l k rs at' err (i : Int) (laid (l.take i) : Int)) true := by
  have hlen := laid_len l
  intro d
  induction d with
  | zero => intro i h; obtain rfl : i = n := by omega
            exact hend
  | succ d ih =>
    intro i h
    have hlt : i < l.length := by omega
    have er : rdOf ByteArray.empty l (i : Int) = l[i] := by
      unfold rdOf
      rw [Int.toNat_natCast, List.getD_eq_getElem?_getD, List.getElem?_eq_getElem hlt, Option.getD_some]
    have hsl := size_laid l i hlt
    have hsn : laid (l.take (i + 1)) = laid (l.take i) + l[i].size + 12 := by
      rw [List.take_succ_eq_append_getElem hlt]
      unfold laid
      rw [List.map_append, List.sum_append, List.map_singleton, List.sum_singleton]; omega
    have hmono : laid (l.take (i + 1)) ≤ laid (l.take n) := by
      have := laid_take (l.take n) (i + 1)
      rw [List.take_take, Nat.min_eq_left (by omega)] at this
      exact this
    have g0 : (i : Int) < (l.length : Int) := by omega
    have g1 : (0 : Int) ≤ (i : Int) := by omega
    have g2 : (laid (l.take (i + 1)) : Int) ≤ k := by omega
    have ih' := ih (i + 1) (by omega)
    have hz1 : laid (l.take i) ≤ 140737488351232 := by omega
    have hz2 : l[i].size ≤ 140737488351232 := by omega
    have hsn' : (laid (l.take i) : Int) + (l[i].size : Int) + 12 = (laid (l.take (i + 1)) : Int) := by omega
    have hi1 : i ≤ 140737488351232 := by omega
    have hw := (torn_sum (laid (l.take i)) l[i].size hz1 hz2).trans hsn'
    have hw1 := torn_next i hi1
    refine Ev.step (fun m => ?_) ih'
    rw [T.lombardlaw07_FrameTorn.l0, if_pos g0, if_pos g1, er, hw, if_pos g2, hw1]

theorem torn_at (cut : Int) (n : Nat) (hc : 0 ≤ cut) (hn : n ≤ 140737488351232) : ∃ kk : Nat, wrap64 (Int.tmod cut ((n : Int) + 1)) = (kk : Int) ∧ kk ≤ n := by
  have h1 := Int.emod_nonneg cut (b := (n : Int) + 1) (by omega)
  have h2 := Int.emod_lt_of_pos cut (b := (n : Int) + 1) (by omega)
  rw [Int.tmod_eq_emod_of_nonneg hc, w64 (by omega) (by omega)]
  exact ⟨(cut % ((n : Int) + 1)).toNat, by omega, by omega⟩
theorem torn_mod (n : Nat) (hn : n ≤ 140737488351232) : IntKind.u64.wrap (wrap64 ((n : Int) + 1)) = (n : Int) + 1 := by
  rw [w64 (by omega) (by omega), IntKind.wrap_u64]
  omega

theorem FrameTorn_ev (l : List ByteArray) (cut : Int) (hs : ∀ s ∈ l, s.size ≤ 140737488351232) (hc : 0 ≤ cut) : Ev (fun k => T.lombardlaw07_FrameTorn.f k l cut) true := by
  obtain ⟨KA, hA⟩ := awake_end
  unfold T.lombardlaw07_FrameTorn.f
  obtain ⟨b, hb, hbb⟩ := Small_ev l hs
  obtain ⟨K0, h0⟩ := hb
  cases b with
  | false =>
    refine ⟨max KA K0, fun k hk => ?_⟩
    have k0 : F.lombardref07_Small.f k l = some false := h0 k (by omega)
    show Option.bind _ _ = _
    rw [k0, Option.bind_some, if_neg (by decide)]
    exact hA k (by omega)
  | true =>
    have hl := hbb rfl
    obtain ⟨K1, h1⟩ := RAll_ev l (by omega)
    by_cases hok : okAll l = true
    · have e : allS l = (S (flat l), 0) := by unfold allS; rw [if_pos hok]
      have hfl := flat_len l
      have hsz : (S (flat l)).size = laid l := by rw [S_size, hfl]
      have hc2 : 0 ≤ cut % ((laid l : Int) + 1) ∧ cut % ((laid l : Int) + 1) < (laid l : Int) + 1 := ⟨Int.emod_nonneg _ (by omega), Int.emod_lt_of_pos _ (by omega)⟩
      obtain ⟨kk, hk1, hk2⟩ := torn_at cut (laid l) hc (by omega)
      have HK := Lib.hid hk1
      clear hk1
      obtain ⟨n, hn, h4, h5, h6⟩ := readL_torn l hok kk hk2
      have hx : L ((S (flat l)).extract 0 kk) = (flat l).take kk := by rw [L_extract, L_S, List.drop_zero]
      obtain ⟨K2, h2⟩ := Read_ev ((S (flat l)).extract 0 kk) (by rw [← L_len, hx, List.length_take]; omega)
      rw [hx, h6] at h2
      have hll := laid_len l
      have hlt := laid_take l n
      have hE := torn_end l (l.take n) (kk : Int) (laid (l.take n) : Int) (if laid (l.take n) = kk then 0 else 14) n (laid (l.take n)) hn (by omega) rfl rfl
        (by by_cases h : laid (l.take n) = kk
            · rw [if_pos h, if_pos (by omega)]
            · rw [if_neg h, if_neg (by omega)]) (by omega) (fun h => by have := h5 h; omega) hs
      have hLp := torn_loop l (l.take n) (kk : Int) (laid (l.take n) : Int) (if laid (l.take n) = kk then 0 else 14) n hn (by omega) (by omega) hE n 0 (by omega)
      obtain ⟨K3, h3⟩ := hLp
      have g0 : ¬ (laid l : Int) + 1 = 0 := by omega
      have hll2 : laid l ≤ 140737488351232 := by omega
      have g1 : (0 : Int) ≤ (kk : Int) := by omega
      have g2 : (kk : Int) ≤ (laid l : Int) := by omega
      refine ⟨max K0 (max K1 (max K2 K3)), fun k hk => ?_⟩
      have k0 : F.lombardref07_Small.f k l = some true := h0 k (by omega)
      have k1 : F.lombardref07_All.f k l = some (S (flat l), 0) := by rw [← e]; exact h1 k (by omega)
      have k2 : F.frame_Read.f k ((S (flat l)).extract 0 kk) = some (l.take n, (laid (l.take n) : Int), if laid (l.take n) = kk then 0 else 14) := h2 k (by omega)
      have k3 := h3 k (by omega)
      have hu := torn_mod (laid l) hll2
      rw [← hsz] at hu
      have hk1 := HK.out
      rw [hsz] at hu
      show Option.bind _ _ = _
      rw [k0, Option.bind_some, if_pos rfl, k1, Option.bind_some, if_pos rfl, hsz, hu, if_neg g0, hk1, if_pos g1, if_pos g2, Int.toNat_natCast, k2, Option.bind_some]
      exact k3
    · have e : allS l = (S [], 2) := by unfold allS; rw [if_neg hok]
      refine ⟨max KA (max K0 K1), fun k hk => ?_⟩
      have k0 : F.lombardref07_Small.f k l = some true := h0 k (by omega)
      have k1 : F.lombardref07_All.f k l = some (S [], 2) := by rw [← e]; exact h1 k (by omega)
      show Option.bind _ _ = _
      rw [k0, Option.bind_some, if_pos rfl, k1, Option.bind_some, if_neg (by decide)]
      exact hA k (by omega)

end Go.Proofs.Ytejfdiiennnjjaa.Facts
