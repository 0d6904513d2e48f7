/- frame.All, whose builder is the call's own: what it comes to for every list of texts, as long as what is laid takes at most 2^47 bytes. -/
import Derived.Test.YtejfdiiennnjjaaFrD
import Derived.Test.YtejfdiiennnjjaaBuilder
import Derived.Lib.UnsafeStr
import Derived.Lib.Hide
import Derived.Outline
namespace Go.Proofs.Ytejfdiiennnjjaa.Facts
open Go.RowKit Go.Proofs.Ytejfdiiennnjjaa.F Go.Proofs.YtejfdiiennnjjaaW.PrintWords Go.Proofs.YtejfdiiennnjjaaW.PrintLast Go.Proofs.YtejfdiiennnjjaaW.PrintMore Go.Proofs.Ytejfdiiennnjjaa
set_option linter.unusedVariables false

/-- Records laid one behind the other. -/
def flat (l : List ByteArray) : List UInt8 := l.flatMap fun s => putL (L s)
def okAll (l : List ByteArray) : Bool := l.all fun s => decide (s.size ≤ 4096)
def allS (l : List ByteArray) : ByteArray × Int := if okAll l = true then (S (flat l), 0) else (S [], 2)
/-- How many bytes they take. -/
def laid (l : List ByteArray) : Nat := (l.map fun s => s.size + 12).sum
theorem flat_len (l : List ByteArray) : (flat l).length = laid l := by
  induction l with
  | nil => rfl
  | cons s l ih =>
    rw [flat, List.flatMap_cons, List.length_append, putL_len, L_len]
    show _ + (flat l).length = _
    rw [ih, laid, laid, List.map_cons, List.sum_cons]
theorem laid_take (l : List ByteArray) (k : Nat) : laid (l.take k) ≤ laid l := by
  induction l generalizing k with
  | nil => simp
  | cons s l ih =>
    cases k with
    | zero => simp [laid]
    | succ k =>
      have := ih k
      rw [List.take_succ_cons]
      simp only [laid, List.map_cons, List.sum_cons] at this ⊢
      omega
theorem laid_len (l : List ByteArray) : l.length * 12 ≤ laid l := by
  induction l with
  | nil => simp
  | cons s l ih => simp only [laid, List.map_cons, List.sum_cons, List.length_cons] at ih ⊢; omega
theorem flat_snoc (l : List ByteArray) (k : Nat) (h : k < l.length) : flat (l.take (k + 1)) = flat (l.take k) ++ putL (L l[k]) := by
  rw [List.take_succ_eq_append_getElem h, flat, List.flatMap_append]
  simp [flat]
theorem ok_snoc (l : List ByteArray) (k : Nat) (h : k < l.length) : okAll (l.take (k + 1)) = (okAll (l.take k) && decide (l[k].size ≤ 4096)) := by
  rw [List.take_succ_eq_append_getElem h, okAll, List.all_append]
  simp [okAll]
theorem not_ok (l : List ByteArray) (k : Nat) (h : k < l.length) (hb : ¬ l[k].size ≤ 4096) : okAll l = false := by
  apply Bool.eq_false_iff.2
  intro hh
  have := (List.all_eq_true.1 hh) l[k] (List.getElem_mem h)
  exact hb (of_decide_eq_true this)

/-- What a round of All finds. -/
def AInv (B : Nat) (l : List ByteArray) (w wr : World) : Prop := Lib.IsBuilder 109 5 B B (Lib.byteCells (flat l)) wr ∧ Below B w wr ∧ okAll l = true

theorem Put_calls (s : ByteArray) (hs : s.size ≤ 140737488351232) (w : World) :
    Calls Try.prog 21 #[.string s] w fun e w' => e = .returned (.tuple #[.string (putS (L s)).1, .int .i64 (putS (L s)).2]) ∧ Below w.heap.size w w' := by
  obtain ⟨k, hk⟩ := (Put_ev s hs).rounds
  exact F.frame_Put.calls k s _ _ w hk
theorem Put_yes (s : ByteArray) (hs : s.size ≤ 4096) (w : World) :
    Calls Try.prog 21 #[.string s] w fun e w' => e = .returned (.tuple #[.string (S (putL (L s))), .int .i64 0]) ∧ Below w.heap.size w w' := by
  have := Put_calls s (by omega) w
  unfold putS at this
  rw [L_len, if_pos hs] at this
  exact this
theorem Put_no (s : ByteArray) (hs : ¬ s.size ≤ 4096) (hm : s.size ≤ 140737488351232) (w : World) :
    Calls Try.prog 21 #[.string s] w fun e w' => e = .returned (.tuple #[.string (S []), .int .i64 2]) ∧ Below w.heap.size w w' := by
  have := Put_calls s hm w
  unfold putS at this
  rw [L_len, if_neg hs] at this
  exact this

theorem size_laid (l : List ByteArray) (k : Nat) (h : k < l.length) : l[k].size + laid (l.take k) + 12 ≤ laid l := by
  have := laid_take l (k + 1)
  rw [List.take_succ_eq_append_getElem h] at this
  unfold laid at this ⊢
  rw [List.map_append, List.sum_append, List.map_singleton, List.sum_singleton] at this
  omega
theorem below_widen {B : Nat} {w w1 : World} (hB : B ≤ w.heap.size) (h : Below w.heap.size w w1) : Below B w w1 := h.mono hB

theorem bd_below {B b : Nat} {p : Value} {bs : List Value} {w w1 : World} (h : Lib.BuilderAt 109 5 B b p bs w) (hb : Below w.heap.size w w1) : Lib.BuilderAt 109 5 B b p bs w1 := by
  have hlt := h.lt
  obtain ⟨h1, v, h2, h3, h4⟩ := h
  refine ⟨h1, v, (hb.block b hlt).trans h2, World.ownsRow.kept h3 (grown_of_below hb none) ?_, h4⟩
  cases v.ownBlock with
  | none => exact .inl rfl
  | some x => exact .inr (by simp)
theorem isb_below {B b : Nat} {bs : List Value} {w w1 : World} (h : Lib.IsBuilder 109 5 B b bs w) (hb : Below w.heap.size w w1) : Lib.IsBuilder 109 5 B b bs w1 := by
  rcases h with h | h
  · exact .inl (bd_below h hb)
  · exact .inr (bd_below h hb)
theorem strCells_S (l : List UInt8) : Lib.strCells (S l) = Lib.byteCells l := rfl

set_option maxHeartbeats 2000000 in
set_option maxRecDepth 100000 in
theorem All_any (A0 : Option Addr) (c0 : Nat) (l : List ByteArray) (w : World) (hr0 : Kd.C Kd.string w A0 l.length l) (hc0 : l.length ≤ c0) (hb : laid l ≤ 140737488351232) :
    Calls Try.prog 22 #[.slice A0 l.length c0] w fun e w' => e = .returned (.tuple #[.string (allS l).1, .int .i64 (allS l).2]) ∧ Below w.heap.size w w' := by
  have HR := Lib.hid hr0
  clear hr0
  have hll : l.length ≤ 140737488351232 := by have := laid_len l; omega
  go_enter Try.func22, Try.ntmps22
  go_wp2
  go_loopw [11] (fun i wr => ∃ k : Nat, k ≤ l.length ∧ i = .int .i64 (k : Int) ∧ AInv w.heap.size (l.take k) w wr) (fun i _ => l.length - (intOf i).toNat)
  case atStart =>
    exact ⟨0, by omega, rfl, Lib.fresh_isBuilder 109 5 w, (Below.refl _ _).alloc (Nat.le_refl _) _, rfl⟩
  case round =>
    obtain ⟨k, hk, rfl, hbd, hbel, hok⟩ := hrel
    have hsz := hbel.size
    by_cases hlt : k < l.length
    · obtain ⟨ad, hA, hc⟩ := Kd.at_string HR.out (k : Int) (by omega) (by omega)
      have e : rdOf ByteArray.empty l (k : Int) = l[k] := by
        unfold rdOf
        rw [Int.toNat_natCast, List.getD_eq_getElem?_getD, List.getElem?_eq_getElem hlt, Option.getD_some]
      rw [e, Int.toNat_natCast] at hc
      have hc' := pw_cell_below hbel hc
      have hsl := size_laid l k hlt
      have hfl := flat_len (l.take k)
      subst hA
      clear hc e
      by_cases h4 : l[k].size ≤ 4096
      · go_wp2_with fail
        refine (Put_yes _ h4 _).mono ?_
        rintro e w1 ⟨rfl, hb1⟩
        go_wp2_with fail
        have hbd1 := isb_below hbd hb1
        have hs1 := hb1.size
        refine (writeString_any _ _ _ _ _ hbd1 (by rw [Lib.byteCells_length, hfl, S_size, putL_len, L_len]; omega) (by omega)).mono ?_
        rintro e w2 ⟨rfl, hbd2, hb2⟩
        have hres : AInv w.heap.size (l.take (k + 1)) w w2 := by
          refine ⟨?_, (below_then hbel hsz hb1).trans hb2, by rw [ok_snoc l k hlt, hok, decide_eq_true h4]; rfl⟩
          rw [flat_snoc l k hlt, Lib.byteCells, List.map_append]
          exact .inr hbd2
        clear hbd2 hb2 hb1 hbd1 hbd hbel hok hfl hsl hs1 hc'
        go_wp2
        go_roundw
        case rel => exact ⟨k + 1, by omega, by go_num, hres⟩
        case measure => simp [intOf]; omega
      · go_wp2_with fail
        refine (Put_no _ h4 (by omega) _).mono ?_
        rintro e w1 ⟨rfl, hb1⟩
        have hno : allS l = (S [], 2) := by unfold allS; rw [not_ok l k hlt h4]; rfl
        have hbz := below_then hbel hsz hb1
        clear hbd hbel hok hfl hsl hc' hb1
        go_wp2
        go_ret2
        rw [hno]
        exact ⟨rfl, hbz⟩
    · obtain rfl : k = l.length := by omega
      rw [List.take_length] at hbd hok
      have hyes : allS l = (S (flat l), 0) := by unfold allS; rw [hok]; rfl
      go_wp2_with fail
      refine (Try.Builder_String_any _ _ (flat l) _ hbd (by omega)).mono ?_
      rintro e w1 ⟨rfl, hb1⟩
      have hbz := hbel.trans hb1
      clear hbd hbel hok hb1
      go_wp2
      go_ret2
      rw [hyes]
      exact ⟨rfl, hbz⟩

def frame_All.f (l0 : List ByteArray) : Option (ByteArray × Int) := if laid l0 ≤ 140737488351232 then some (allS l0) else none
theorem frame_All.calls (A0 : Option Addr) (c0 : Nat) (l0 : List ByteArray) (r1 : ByteArray) (r2 : Int) (w : World) (hr0 : Kd.C Kd.string w A0 l0.length l0) (hc0 : l0.length ≤ c0) (h : frame_All.f l0 = some (r1, r2)) :
    Calls Try.prog 22 #[.slice A0 l0.length c0] w fun e w' => e = .returned (.tuple #[.string r1, .int .i64 r2]) ∧ Below w.heap.size w w' := by
  unfold frame_All.f at h
  split at h
  · have := Option.some.inj h
    have h1 := All_any A0 c0 l0 w hr0 hc0 (by assumption)
    rw [this] at h1
    exact h1
  · exact absurd h (by simp)
end Go.Proofs.Ytejfdiiennnjjaa.Facts
