/- The function isin.total, whose inner function 'put' writes two captured variables: what it comes to, for every text of at most 140737488351232 bytes. -/
import Derived.Test.YtabnpmojccepcaaProg
import Derived.Below
import Derived.WalkKit
import Derived.OneCell
import Derived.Lib.Hide
import Derived.Outline
import Derived.Deep.LoopGhost
namespace Go.Proofs.Ytabnpmojccepcaa
open Go.RowKit

/-- What a digit adds. -/
def dbl (tw : Bool) (d : Int) : Int := if tw then (d * 2) / 10 + (d * 2) % 10 else d
def tstep (st : Int × Bool) (d : Int) : Int × Bool := (st.1 + dbl st.2 d, !st.2)
/-- The digits of a sign, the last one first. -/
def digs (c : UInt8) : List Int :=
  if 48 ≤ c.toNat ∧ c.toNat ≤ 57 then [(c.toNat : Int) - 48] else [((c.toNat : Int) - 65) % 256 % 10, (((c.toNat : Int) - 65) % 256 + 10) / 10]
def totFrom (l : List UInt8) (tw : Bool) (k : Nat) : Int × Bool := ((l.drop k).reverse.flatMap digs).foldl tstep (0, tw)
def isin_total.f (a0 : ByteArray) (a1 : Bool) : Option Int := if a0.size ≤ 140737488351232 then some (totFrom a0.data.toList a1 0).1 else none

theorem dbl_range (tw : Bool) (d : Int) (h0 : 0 ≤ d) (h1 : d ≤ 26) : 0 ≤ dbl tw d ∧ dbl tw d ≤ 26 := by
  unfold dbl; split <;> omega

theorem totFrom_last (l : List UInt8) (tw : Bool) : totFrom l tw l.length = (0, tw) := by simp [totFrom]
theorem totFrom_step (l : List UInt8) (tw : Bool) (k : Nat) (h : k < l.length) : totFrom l tw k = (digs l[k]).foldl tstep (totFrom l tw (k + 1)) := by
  unfold totFrom
  rw [List.drop_eq_getElem_cons h, List.reverse_cons, List.flatMap_append, List.foldl_append]
  simp
theorem digs_range (c : UInt8) : ∀ d ∈ digs c, 0 ≤ d ∧ d ≤ 26 := by
  have := c.toNat_lt
  intro d hd
  unfold digs at hd
  split at hd
  · simp at hd; omega
  · simp at hd; omega
theorem fold_range (l : List Int) (hl : ∀ d ∈ l, 0 ≤ d ∧ d ≤ 26) (st : Int × Bool) : st.1 ≤ (l.foldl tstep st).1 ∧ (l.foldl tstep st).1 ≤ st.1 + 26 * l.length := by
  induction l generalizing st with
  | nil => simp
  | cons d l ih =>
    have := ih (fun x hx => hl x (by simp [hx])) (tstep st d)
    have h2 := hl d (by simp)
    have h3 := dbl_range st.2 d h2.1 h2.2
    simp only [List.foldl_cons, List.length_cons]
    simp only [tstep] at this ⊢
    push_cast
    omega
theorem totFrom_range (l : List UInt8) (tw : Bool) (k : Nat) : 0 ≤ (totFrom l tw k).1 ∧ (totFrom l tw k).1 ≤ 52 * l.length := by
  unfold totFrom
  have h : ∀ d ∈ (l.drop k).reverse.flatMap digs, 0 ≤ d ∧ d ≤ 26 := by
    intro d hd
    rw [List.mem_flatMap] at hd
    obtain ⟨c, _, hc⟩ := hd
    exact digs_range c d hc
  have h2 : ∀ m : List UInt8, (m.flatMap digs).length ≤ 2 * m.length := by
    intro m
    induction m with
    | nil => simp
    | cons c m ih =>
      rw [List.flatMap_cons, List.length_append, List.length_cons]
      have : (digs c).length ≤ 2 := by unfold digs; split <;> simp
      omega
  have h3 := fold_range _ h (0, tw)
  have h4 := h2 (l.drop k).reverse
  simp at h3 h4
  omega

set_option maxHeartbeats 400000 in
theorem put_any (d s : Int) (tw : Bool) (b1 b2 : Nat) (w : World) (hne : b1 ≠ b2) (h1 : w.heap[b1]? = some (.cells #[.bool tw] 4 (0, 0))) (h2 : w.heap[b2]? = some (.cells #[.int .i64 s] 3 (0, 0)))
    (hd0 : 0 ≤ d) (hd : d ≤ 26) (hs0 : 0 ≤ s) (hs : s ≤ 9000000000000000000) :
    Calls Try.prog 27 #[.int .i64 d, .pointer (some ⟨b1, 0, none⟩), .pointer (some ⟨b2, 0, none⟩)] w fun e w' => e = .returned (.tuple #[]) ∧ (w.setCell ⟨b2, 0, none⟩ (.int .i64 (s + dbl tw d))).setCell ⟨b1, 0, none⟩ (.bool (!tw)) = w' := by
  have c1 := cell_of_one h1
  have f1 := free_of_one h1
  have c2 := cell_of_one h2
  have f2 := free_of_one h2
  cases tw
  · go_enter Try.func27, Try.ntmps27
    go_wp2
    go_end0
    exact ⟨rfl, rfl⟩
  · go_enter Try.func27, Try.ntmps27
    go_wp2
    go_end0
    exact ⟨rfl, rfl⟩


theorem digit_yes (c : Int) (w : World) (h0 : 48 ≤ c) (h1 : c ≤ 57) : Calls Try.prog 25 #[.int .u8 c] w fun e w' => e = .returned (.bool true) ∧ w = w' := by
  go_enter Try.func25, Try.ntmps25
  go_wp2
  go_ret
  exact ⟨rfl, rfl⟩
theorem digit_no (c : Int) (w : World) (h0 : c < 48 ∨ 57 < c) : Calls Try.prog 25 #[.int .u8 c] w fun e w' => e = .returned (.bool false) ∧ w = w' := by
  rcases h0 with h | h
  · have h' : ¬ 48 ≤ c := by omega
    go_enter Try.func25, Try.ntmps25
    go_wp2
    go_ret
    exact ⟨rfl, rfl⟩
  · have h' : 48 ≤ c := by omega
    have h'' : ¬ c ≤ 57 := by omega
    go_enter Try.func25, Try.ntmps25
    go_wp2
    go_ret
    exact ⟨rfl, rfl⟩

/-- What the two captured variables hold, and that nothing older has changed. -/
def TInv (B : Nat) (st : Int × Bool) (w wr : World) : Prop :=
  wr.heap[B]? = some (.cells #[.bool st.2] 4 (0, 0)) ∧ wr.heap[B + 1]? = some (.cells #[.int .i64 st.1] 3 (0, 0)) ∧ Below B w wr

theorem TInv.step {B : Nat} {st : Int × Bool} {w wr : World} (h : TInv B st w wr) (d : Int) :
    TInv B (tstep st d) w ((wr.setCell ⟨B + 1, 0, none⟩ (.int .i64 (st.1 + dbl st.2 d))).setCell ⟨B, 0, none⟩ (.bool (!st.2))) := by
  obtain ⟨h1, h2, h3⟩ := h
  refine ⟨?_, ?_, ?_⟩
  · exact one_setCell ((Below.heap_setCell _ _ _ _ (by simp)).trans h1)
  · exact (Below.heap_setCell _ _ _ _ (by simp)).trans (one_setCell h2)
  · exact (h3.setCell (by simp) _).setCell (by simp) _

set_option maxHeartbeats 1600000 in
theorem total_any (s : ByteArray) (tw : Bool) (w : World) (hs : s.size ≤ 140737488351232) :
    Calls Try.prog 22 #[.string s, .bool tw] w fun e w' => e = .returned (.int .i64 (totFrom s.data.toList tw 0).1) ∧ Below w.heap.size w w' := by
  have hlen : s.data.toList.length = s.size := by simp
  go_enter Try.func22, Try.ntmps22
  go_wp2
  go_loopw [7] (fun i wr => ∃ n : Int, -1 ≤ n ∧ n < s.size ∧ i = .int .i64 n ∧ TInv w.heap.size (totFrom s.data.toList tw (n + 1).toNat) w wr) (fun i _ => (intOf i + 1).toNat)
  case atStart =>
    refine ⟨_, by omega, by omega, rfl, ?_⟩
    rw [show ((s.size : Int) - 1 + 1).toNat = s.data.toList.length by simp, totFrom_last]
    refine ⟨?_, ?_, ((Below.refl _ _).alloc (Nat.le_refl _) _).alloc (by simp) _⟩
    · simpa using (Below.heap_alloc (w.alloc (.cells #[.bool tw] 4)) (.cells #[.int .i64 0] 3) _ (by simp)).trans (heap_alloc_new _ _)
    · simpa using heap_alloc_new (w.alloc (.cells #[.bool tw] 4)) (.cells #[.int .i64 0] 3)
  case round =>
    obtain ⟨n, hn0, hn1, rfl, hinv⟩ := hrel
    by_cases h0 : 0 ≤ n
    · obtain ⟨j, rfl⟩ := Int.eq_ofNat_of_zero_le h0
      have hj : j < s.data.toList.length := by omega
      have hr := totFrom_range s.data.toList tw (j + 1)
      have hbd : 52 * (s.data.toList.length : Int) ≤ 52 * 140737488351232 := by omega
      have hst := totFrom_step s.data.toList tw j hj
      have hget : s.data.toList[j] = s[j] := by rw [Array.getElem_toList]; rfl
      rw [hget] at hst
      rw [show ((j : Int) + 1).toNat = j + 1 by omega] at hinv
      generalize totFrom s.data.toList tw (j + 1) = st at hinv hst hr
      have hlo := (s[j]'(by simpa using hj)).toNat_lt
      clear hget
      by_cases hd : 48 ≤ (s[j]'(by simpa using hj)).toNat ∧ (s[j]'(by simpa using hj)).toNat ≤ 57
      · have hst2 : totFrom s.data.toList tw j = tstep st ((s[j].toNat : Int) - 48) := by rw [hst]; simp [digs, hd]
        have HS := Lib.hid hst2
        clear hst hst2
        obtain ⟨hd0, hd1⟩ := hd
        have hinv1 := hinv.step ((s[j].toNat : Int) - 48)
        go_wp2_with fail
        refine (digit_yes _ _ (by omega) (by omega)).mono ?_; rintro e w' ⟨rfl, rfl⟩
        go_wp2_with fail
        refine (put_any _ _ _ _ _ _ (by omega) hinv.1 hinv.2.1 (by omega) (by omega) (by omega) (by omega)).mono ?_; rintro e w' ⟨rfl, rfl⟩
        go_wp2
        go_roundw
        case rel => exact ⟨(j : Int) - 1, by omega, by omega, by go_num, by rw [show ((j : Int) - 1 + 1).toNat = j by omega, HS.out]; exact hinv1⟩
        case measure => simp [intOf]
      · have hst2 : totFrom s.data.toList tw j = tstep (tstep st (((s[j].toNat : Int) - 65) % 256 % 10)) ((((s[j].toNat : Int) - 65) % 256 + 10) / 10) := by rw [hst]; simp [digs, hd]
        have HS := Lib.hid hst2
        clear hst hst2
        have hd' : (s[j].toNat : Int) < 48 ∨ 57 < (s[j].toNat : Int) := by omega
        clear hd
        have hinv1 := hinv.step (((s[j].toNat : Int) - 65) % 256 % 10)
        have hinv2 := hinv1.step ((((s[j].toNat : Int) - 65) % 256 + 10) / 10)
        have hr1 := dbl_range st.2 (((s[j].toNat : Int) - 65) % 256 % 10) (by omega) (by omega)
        go_wp2_with fail
        refine (digit_no _ _ hd').mono ?_; rintro e w' ⟨rfl, rfl⟩
        go_wp2_with fail
        refine (put_any _ _ _ _ _ _ (by omega) hinv.1 hinv.2.1 (by omega) (by omega) (by omega) (by omega)).mono ?_; rintro e w' ⟨rfl, rfl⟩
        go_wp2_with fail
        refine (put_any _ _ _ _ _ _ (by omega) hinv1.1 hinv1.2.1 (by omega) (by omega) (by simp only [tstep]; omega) (by simp only [tstep]; omega)).mono ?_; rintro e w' ⟨rfl, rfl⟩
        go_wp2
        go_roundw
        case rel => exact ⟨(j : Int) - 1, by omega, by omega, by go_num, by rw [show ((j : Int) - 1 + 1).toNat = j by omega, HS.out]; exact hinv2⟩
        case measure => simp [intOf]
    · obtain rfl : n = -1 := by omega
      have hc := hinv.2.1
      have c2 := cell_of_one hc
      simp only [show (-1 + 1 : Int).toNat = 0 from rfl] at c2
      have hb := hinv.2.2
      clear hinv hc
      go_wp2
      go_ret
      exact ⟨rfl, hb⟩

theorem isin_total.calls (a0 : ByteArray) (a1 : Bool) (r : Int) (w : World) (h : isin_total.f a0 a1 = some r) :
    Calls Try.prog 22 #[.string a0, .bool a1] w fun e w' => e = .returned (.int .i64 r) ∧ Below w.heap.size w w' := by
  unfold isin_total.f at h
  split at h
  · obtain rfl := Option.some.inj h
    exact total_any a0 a1 w (by assumption)
  · exact absurd h (by simp)
end Go.Proofs.Ytabnpmojccepcaa
