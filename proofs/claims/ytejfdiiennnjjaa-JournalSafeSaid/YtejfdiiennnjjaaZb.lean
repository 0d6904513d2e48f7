/- The chapter's example of package disk: it comes to true. DiskNobody: the walk. Package disk: each method by one contract, whatever the disk that was made; how long its files may get. How an act that comes in is read: its eight cells. How a list of acts that comes in is read: by its cells, eight for each. -/
import Derived.Test.YtejfdiiennnjjaaZa
import Derived.WideShapes
import Derived.ChangeShapes
import Derived.OpenShut
import Derived.Deep.Slices
import Derived.SizedLaws
namespace Go.Proofs.Ytejfdiiennnjjaa.D
open Go.RowKit Go.Proofs Go.Proofs.Ytejfdiiennnjjaa
set_option linter.unusedVariables false

def abc : ByteArray := ⟨#[97, 98, 99]⟩
def def_ : ByteArray := ⟨#[100, 101, 102]⟩
theorem empty_app (s : ByteArray) : (⟨#[]⟩ : ByteArray) ++ s = s := ByteArray.empty_append
def z1 : Dk := { zero with l0 := abc }
def z2 : Dk := { zero with s0 := abc }
def z3 : Dk := { zero with s0 := abc, l0 := def_ }
set_option maxRecDepth 100000 in
theorem awake_any (w : World) : Calls Try.prog 34 #[] w fun e w' => e = .returned (.bool true) ∧ Below w.heap.size w w' := by
  go_enter Try.func34, Try.ntmps34
  go_wp2_with fail
  refine (New_any w).mono ?_; rintro e w1 ⟨rfl, h1, b1⟩
  go_wp2_with fail
  refine (Append_ok w.heap.size zero 0 abc _ h1 (by unfold Dk.Fits; decide) (by rfl) (by decide) (by decide)).mono ?_; rintro e w2 ⟨rfl, T2⟩
  have e2 : (useD zero).setL 0 (zero.l 0 ++ abc) = z1 := by kernel_rfl
  rw [e2] at T2
  go_wp2_with fail
  refine (Sync_ok w.heap.size z1 0 _ T2.is (by unfold Dk.Fits; decide) (by rfl) (by decide)).mono ?_; rintro e w3 ⟨rfl, T3⟩
  have e3 : ((useD z1).setS 0 (z1.s 0 ++ z1.l 0)).setL 0 ⟨#[]⟩ = z2 := by kernel_rfl
  rw [e3] at T3
  go_wp2_with fail
  refine (Append_ok w.heap.size z2 0 def_ _ T3.is (by unfold Dk.Fits; decide) (by rfl) (by decide) (by decide)).mono ?_; rintro e w4 ⟨rfl, T4⟩
  have e4 : (useD z2).setL 0 (z2.l 0 ++ def_) = z3 := by kernel_rfl
  rw [e4] at T4
  go_wp2_with fail
  refine (Crash_made w.heap.size z3 2 0 0 0 _ T4.is (by unfold Dk.Fits; decide) (by rfl)).mono ?_; rintro e w5 ⟨rfl, T5⟩
  go_wp2_with fail
  refine (Read_ok w.heap.size (crash z3 2 0 0 0) 0 _ T5.is (by unfold Dk.Fits; decide +kernel) (by rfl)).mono ?_; rintro e w6 ⟨rfl, nq, rfl⟩
  have e6 : (crash z3 2 0 0 0).s 0 ++ (crash z3 2 0 0 0).l 0 = ⟨#[97, 98, 99, 100, 101]⟩ := by kernel_rfl
  rw [e6]
  go_wp2
  go_ret
  exact ⟨rfl, ((((b1.trans (T2.below _ (Nat.le_refl _))).trans (T3.below _ (Nat.le_refl _))).trans (T4.below _ (Nat.le_refl _))).trans (T5.below _ (Nat.le_refl _))).trans ⟨rfl, rfl, rfl, Nat.le_refl _, fun _ _ => rfl⟩⟩
end Go.Proofs.Ytejfdiiennnjjaa.D
namespace Go.Proofs.Ytejfdiiennnjjaa.D
open Go.RowKit Go.Proofs Go.Proofs.Ytejfdiiennnjjaa
set_option linter.unusedVariables false

def none_ (n : Int) : Dk := ⟨⟨#[]⟩, ⟨#[]⟩, ⟨#[]⟩, ⟨#[]⟩, ⟨#[]⟩, ⟨#[]⟩, ⟨#[]⟩, ⟨#[]⟩, n, false, false⟩
theorem rdy_none (n i : Int) : rdy (none_ n) i = 3 := rfl
def actCells (k f : Int) (s : ByteArray) (n k0 k1 k2 k3 : Int) : Array Value := #[.int .i64 k, .int .i64 f, .string s, .int .i64 n, .int .i64 k0, .int .i64 k1, .int .i64 k2, .int .i64 k3]
/-- The blocks of DiskNobody. -/
structure Nb (B : Nat) (w0 : World) (k f : Int) (s : ByteArray) (n k0 k1 k2 k3 : Int) (w : World) : Prop where
  act : w.heap[B]? = some (.cells (actCells k f s n k0 k1 k2 k3) 61 (0, 0))
  disk : ∃ l, Is (B + 1) (none_ l) w
  row : w.heap[B + 2]? = some (.cells #[.pointer none, .pointer (some ⟨B + 1, 0, none⟩)] 51 (0, 0))
  below : Below B w0 w
section
variable {B : Nat} {w0 : World} {k f : Int} {s : ByteArray} {n k0 k1 k2 k3 : Int} {w : World}
theorem Nb.c1 (h : Nb B w0 k f s n k0 k1 k2 k3 w) : w.cell? ⟨B, 1, none⟩ = some (.int .i64 f) := by simp [World.cell?, h.act, actCells]
theorem Nb.c2 (h : Nb B w0 k f s n k0 k1 k2 k3 w) : w.cell? ⟨B, 2, none⟩ = some (.string s) := by simp [World.cell?, h.act, actCells]
theorem Nb.c3 (h : Nb B w0 k f s n k0 k1 k2 k3 w) : w.cell? ⟨B, 3, none⟩ = some (.int .i64 n) := by simp [World.cell?, h.act, actCells]
theorem Nb.c4 (h : Nb B w0 k f s n k0 k1 k2 k3 w) : w.cell? ⟨B, 4, none⟩ = some (.int .i64 k0) := by simp [World.cell?, h.act, actCells]
theorem Nb.c5 (h : Nb B w0 k f s n k0 k1 k2 k3 w) : w.cell? ⟨B, 5, none⟩ = some (.int .i64 k1) := by simp [World.cell?, h.act, actCells]
theorem Nb.c6 (h : Nb B w0 k f s n k0 k1 k2 k3 w) : w.cell? ⟨B, 6, none⟩ = some (.int .i64 k2) := by simp [World.cell?, h.act, actCells]
theorem Nb.c7 (h : Nb B w0 k f s n k0 k1 k2 k3 w) : w.cell? ⟨B, 7, none⟩ = some (.int .i64 k3) := by simp [World.cell?, h.act, actCells]
theorem Nb.r0 (h : Nb B w0 k f s n k0 k1 k2 k3 w) : w.cell? ⟨B + 1 + 1, 0, none⟩ = some (.pointer none) := by simp [World.cell?, h.row]
theorem Nb.r1 (h : Nb B w0 k f s n k0 k1 k2 k3 w) : w.cell? ⟨B + 1 + 1, 1, none⟩ = some (.pointer (some ⟨B + 1, 0, none⟩)) := by simp [World.cell?, h.row]
theorem Nb.turn {w' : World} {l : Int} (h : Nb B w0 k f s n k0 k1 k2 k3 w) (T : Turn (B + 1) (none_ l) w w') : Nb B w0 k f s n k0 k1 k2 k3 w' :=
  ⟨(T.others _ (lt_of_block h.act) (by omega)).trans h.act, ⟨l, T.is⟩, (T.others _ (lt_of_block h.row) (by omega)).trans h.row, h.below.trans (T.below B (by omega))⟩
theorem Nb.grown {w' : World} (h : Nb B w0 k f s n k0 k1 k2 k3 w) (hs : ∀ c, c < w.heap.size → w'.heap[c]? = w.heap[c]?) (hb : ∀ B, B ≤ w.heap.size → Below B w w') : Nb B w0 k f s n k0 k1 k2 k3 w' := by
  obtain ⟨l, hd⟩ := h.disk
  have hd' : w.heap[B + 1]? = _ := hd
  exact ⟨(hs _ (lt_of_block h.act)).trans h.act, ⟨l, (hs _ (lt_of_block hd')).trans hd'⟩, (hs _ (lt_of_block h.row)).trans h.row, h.below.trans (hb B (Nat.le_of_lt (lt_of_block h.act)))⟩
end
set_option maxRecDepth 100000 in
set_option maxHeartbeats 4000000 in
theorem Nobody_any (k f : Int) (s : ByteArray) (n k0 k1 k2 k3 : Int) (w : World) : Calls Try.prog 12 #[.agg (actCells k f s n k0 k1 k2 k3)] w fun e w' => e = .returned (.bool true) ∧ Below w.heap.size w w' := by
  unfold actCells
  go_enter Try.func12, Try.ntmps12
  go_wp2
  go_loopw [13] (fun i wr => ∃ m : Int, 0 ≤ m ∧ m ≤ 2 ∧ i = .int .i64 m ∧ Nb w.heap.size w k f s n k0 k1 k2 k3 wr) (fun i _ => (2 - intOf i).toNat)
  case atStart =>
    refine ⟨0, by omega, by omega, rfl, ?_, ⟨0, ?_⟩, ?_, ?_⟩
    · rw [Below.heap_alloc _ _ _ (by simp; omega), Below.heap_alloc _ _ _ (by simp)]; exact heap_alloc_new _ _
    · unfold Is; rw [Below.heap_alloc _ _ _ (by simp)]
      have := heap_alloc_new (w.alloc (Obj.cells (actCells k f s n k0 k1 k2 k3) 61)) (Obj.cells (none_ 0).cells 83)
      rw [show (w.alloc (Obj.cells (actCells k f s n k0 k1 k2 k3) 61)).heap.size = w.heap.size + 1 by simp] at this
      exact this
    · have := heap_alloc_new ((w.alloc (Obj.cells (actCells k f s n k0 k1 k2 k3) 61)).alloc (Obj.cells (none_ 0).cells 83)) (Obj.cells #[.pointer none, .pointer (some ⟨w.heap.size + 1, 0, none⟩)] 51)
      rw [show ((w.alloc (Obj.cells (actCells k f s n k0 k1 k2 k3) 61)).alloc (Obj.cells (none_ 0).cells 83)).heap.size = w.heap.size + 2 by simp] at this
      exact this
    · exact (((Below.refl _ _).alloc (Nat.le_refl _) _).alloc (by simp) _).alloc (by simp; omega) _
  case round =>
    obtain ⟨m, hm0, hm2, rfl, N⟩ := hrel
    obtain rfl | rfl | rfl : m = 0 ∨ m = 1 ∨ m = 2 := by omega
    · have r0 := N.r0
      have c1 := N.c1
      have c3 := N.c3
      have c4 := N.c4
      have c5 := N.c5
      have c6 := N.c6
      have c7 := N.c7
      go_wp2_with fail
      refine (Read_nil f _).mono ?_; rintro e w' ⟨rfl, hw⟩; replace hw := hw.symm; subst hw
      go_wp2_with fail
      refine (Len_nil f _).mono ?_; rintro e w' ⟨rfl, hw⟩; replace hw := hw.symm; subst hw
      go_wp2_with fail
      refine (Limit_nil n _).mono ?_; rintro e w' ⟨rfl, hw⟩; replace hw := hw.symm; subst hw
      go_wp2_with fail
      refine (Crash_nil k0 k1 k2 k3 _).mono ?_; rintro e w2 ⟨rfl, hz, ho, hb⟩
      have N := N.grown ho hb
      clear r0 c1 c3 c4 c5 c6 c7
      have c1 := N.c1
      have c2 := N.c2
      have c3 := N.c3
      go_wp2_with fail
      refine (Append_nil f s _).mono ?_; rintro e w' ⟨rfl, hw⟩; replace hw := hw.symm; subst hw
      go_wp2_with fail
      refine (Sync_nil f _).mono ?_; rintro e w' ⟨rfl, hw⟩; replace hw := hw.symm; subst hw
      go_wp2_with fail
      refine (Cut_nil f n _).mono ?_; rintro e w' ⟨rfl, hw⟩; replace hw := hw.symm; subst hw
      go_wp2_with fail
      refine (Late_nil f _).mono ?_; rintro e w' ⟨rfl, hw⟩; replace hw := hw.symm; subst hw
      go_wp2
      go_roundw
      case rel => exact ⟨1, by omega, by omega, rfl, N⟩
      case measure => simp [intOf]
    · obtain ⟨l, D⟩ := N.disk
      have r1 := N.r1
      have c1 := N.c1
      have c3 := N.c3
      have rn : ∀ l, ¬ rdy (none_ l) f = 0 := fun l => by rw [rdy_none]; decide
      go_wp2_with fail
      refine (Read_bad _ _ f _ D (rn l)).mono ?_; rintro e w' ⟨rfl, hw⟩; replace hw := hw.symm; subst hw
      go_wp2_with fail
      refine (Len_bad _ _ f _ D (rn l)).mono ?_; rintro e w' ⟨rfl, hw⟩; replace hw := hw.symm; subst hw
      go_wp2_with fail
      refine (Limit_any _ _ n _ D).mono ?_; rintro e w2 ⟨rfl, T⟩
      replace T : Turn (w.heap.size + 1) (none_ n) wr w2 := T
      have N2 := N.turn T
      have d4 := N2.c4
      have d5 := N2.c5
      have d6 := N2.c6
      have d7 := N2.c7
      go_wp2_with fail
      refine (Crash_unmade _ _ k0 k1 k2 k3 _ T.is rfl).mono ?_; rintro e w3 ⟨rfl, T3⟩
      have N3 := N2.turn T3
      have e1 := N3.c1
      have e2 := N3.c2
      have e3 := N3.c3
      have D3 := T3.is
      clear r1 c1 c3 d4 d5 d6 d7 T T3 N N2 D
      go_wp2_with fail
      refine (Append_bad _ _ f s _ D3 (rn n)).mono ?_; rintro e w' ⟨rfl, hw⟩; replace hw := hw.symm; subst hw
      go_wp2_with fail
      refine (Sync_bad _ _ f _ D3 (rn n)).mono ?_; rintro e w' ⟨rfl, hw⟩; replace hw := hw.symm; subst hw
      go_wp2_with fail
      refine (Cut_bad _ _ f n _ D3 (rn n)).mono ?_; rintro e w' ⟨rfl, hw⟩; replace hw := hw.symm; subst hw
      go_wp2_with fail
      refine (Late_bad _ _ f _ D3 (rn n)).mono ?_; rintro e w' ⟨rfl, hw⟩; replace hw := hw.symm; subst hw
      go_wp2
      go_roundw
      case rel => exact ⟨2, by omega, by omega, rfl, N3⟩
      case measure => simp [intOf]
    · go_wp2_with fail
      refine (awake_any _).mono ?_; rintro e w2 ⟨rfl, b2⟩
      go_wp2
      go_ret
      exact ⟨rfl, N.below.trans (b2.mono (Nat.le_of_lt (lt_of_block N.act)))⟩
end Go.Proofs.Ytejfdiiennnjjaa.D
namespace Go.Proofs.Ytejfdiiennnjjaa.D
open Go.RowKit Go.Proofs Go.Proofs.Ytejfdiiennnjjaa
set_option linter.unusedVariables false

def appN (d : Dk) (i : Int) (s : ByteArray) : Int := if ¬ rdy d i = 0 then rdy d i else if 1048576 < d.len i + s.size then 18 else useN d
def appD (d : Dk) (i : Int) (s : ByteArray) : Dk := if ¬ rdy d i = 0 then d else if 1048576 < d.len i + s.size then d else if d.left = 0 then useD d else (useD d).setL i (d.l i ++ s)
theorem Append_any (b : Nat) (d : Dk) (i : Int) (s : ByteArray) (w : World) (h : Is b d w) (hf : d.Fits) : Calls Try.prog 32 #[.pointer (some ⟨b, 0, none⟩), .int .i64 i, .string s] w fun e w' => e = .returned (.int .i64 (appN d i s)) ∧ Turn b (appD d i s) w w' := by
  unfold appN appD
  by_cases hr : rdy d i = 0
  · rw [if_neg (not_not_intro hr), if_neg (not_not_intro hr)]
    by_cases hs : 1048576 < d.len i + s.size
    · rw [if_pos hs, if_pos hs]
      exact (Append_full b d i s w h hf hr hs).mono fun e w' ⟨he, n, hn⟩ => ⟨he, by rw [hn]; exact (Turn.refl h).drewN n⟩
    · rw [if_neg hs, if_neg hs]
      unfold useN
      by_cases h0 : d.left = 0
      · rw [if_pos h0, if_pos h0]
        exact Append_dead b d i s w h hf hr (by omega) h0
      · rw [if_neg h0, if_neg h0]
        exact Append_ok b d i s w h hf hr (by omega) h0
  · rw [if_pos hr, if_pos hr]
    exact (Append_bad b d i s w h hr).mono fun e w' ⟨he, hn⟩ => ⟨he, by rw [hn]; exact Turn.refl h⟩
def synN (d : Dk) (i : Int) : Int := if ¬ rdy d i = 0 then rdy d i else useN d
def synD (d : Dk) (i : Int) : Dk := if ¬ rdy d i = 0 then d else if d.left = 0 then useD d else ((useD d).setS i (d.s i ++ d.l i)).setL i ⟨#[]⟩
theorem Sync_any (b : Nat) (d : Dk) (i : Int) (w : World) (h : Is b d w) (hf : d.Fits) : Calls Try.prog 36 #[.pointer (some ⟨b, 0, none⟩), .int .i64 i] w fun e w' => e = .returned (.int .i64 (synN d i)) ∧ Turn b (synD d i) w w' := by
  unfold synN synD
  by_cases hr : rdy d i = 0
  · rw [if_neg (not_not_intro hr), if_neg (not_not_intro hr)]
    unfold useN
    by_cases h0 : d.left = 0
    · rw [if_pos h0, if_pos h0]
      exact Sync_dead b d i w h hf hr h0
    · rw [if_neg h0, if_neg h0]
      exact Sync_ok b d i w h hf hr h0
  · rw [if_pos hr, if_pos hr]
    exact (Sync_bad b d i w h hr).mono fun e w' ⟨he, hn⟩ => ⟨he, by rw [hn]; exact Turn.refl h⟩
def cutN (d : Dk) (i n : Int) : Int := if ¬ rdy d i = 0 then rdy d i else if n < 0 ∨ (d.len i : Int) < n then 1 else useN d
def cutD (d : Dk) (i n : Int) : Dk := if ¬ rdy d i = 0 then d else if n < 0 ∨ (d.len i : Int) < n then d else if d.left = 0 then useD d else
  if n ≤ (d.s i).size then ((useD d).setS i ((d.s i).extract 0 n.toNat)).setL i ⟨#[]⟩ else (useD d).setL i ((d.l i).extract 0 (n.toNat - (d.s i).size))
theorem Cut_any (b : Nat) (d : Dk) (i n : Int) (w : World) (h : Is b d w) (hf : d.Fits) : Calls Try.prog 43 #[.pointer (some ⟨b, 0, none⟩), .int .i64 i, .int .i64 n] w fun e w' => e = .returned (.int .i64 (cutN d i n)) ∧ Turn b (cutD d i n) w w' := by
  unfold cutN cutD
  by_cases hr : rdy d i = 0
  · rw [if_neg (not_not_intro hr), if_neg (not_not_intro hr)]
    by_cases hs : n < 0 ∨ (d.len i : Int) < n
    · rw [if_pos hs, if_pos hs]
      exact (Cut_arg b d i n w h hf hr hs).mono fun e w' ⟨he, n, hn⟩ => ⟨he, by rw [hn]; exact (Turn.refl h).drewN n⟩
    · rw [if_neg hs, if_neg hs]
      have h1 : 0 ≤ n := by omega
      have h2 : n ≤ d.len i := by omega
      unfold useN
      by_cases h0 : d.left = 0
      · rw [if_pos h0, if_pos h0]
        exact Cut_dead b d i n w h hf hr h1 h2 h0
      · rw [if_neg h0, if_neg h0]
        by_cases h3 : n ≤ (d.s i).size
        · rw [if_pos h3]
          exact Cut_safe b d i n w h hf hr h1 h2 h0 h3
        · rw [if_neg h3]
          exact Cut_late b d i n w h hf hr h2 h0 (by omega)
  · rw [if_pos hr, if_pos hr]
    exact (Cut_bad b d i n w h hr).mono fun e w' ⟨he, hn⟩ => ⟨he, by rw [hn]; exact Turn.refl h⟩
def allOf (d : Dk) (i : Int) : ByteArray := if ¬ rdy d i = 0 then ⟨#[]⟩ else d.s i ++ d.l i
def lenOf (d : Dk) (i : Int) : Nat := if ¬ rdy d i = 0 then 0 else d.len i
def lateOf (d : Dk) (i : Int) : Nat := if ¬ rdy d i = 0 then 0 else (d.l i).size
theorem Read_any (b : Nat) (d : Dk) (i : Int) (w : World) (h : Is b d w) (hf : d.Fits) : Calls Try.prog 41 #[.pointer (some ⟨b, 0, none⟩), .int .i64 i] w fun e w' => e = .returned (.tuple #[.string (allOf d i), .int .i64 (rdy d i)]) ∧ Turn b d w w' := by
  unfold allOf
  by_cases hr : rdy d i = 0
  · rw [if_neg (not_not_intro hr)]
    have R := Read_ok b d i w h hf hr
    rw [← hr] at R
    exact R.mono fun e w' ⟨he, n, hn⟩ => ⟨he, by rw [hn]; exact (Turn.refl h).drewN n⟩
  · rw [if_pos hr]
    exact (Read_bad b d i w h hr).mono fun e w' ⟨he, hn⟩ => ⟨he, by rw [hn]; exact Turn.refl h⟩
theorem Len_any (b : Nat) (d : Dk) (i : Int) (w : World) (h : Is b d w) (hf : d.Fits) : Calls Try.prog 33 #[.pointer (some ⟨b, 0, none⟩), .int .i64 i] w fun e w' => e = .returned (.tuple #[.int .i64 (lenOf d i : Nat), .int .i64 (rdy d i)]) ∧ Turn b d w w' := by
  unfold lenOf
  by_cases hr : rdy d i = 0
  · rw [if_neg (not_not_intro hr)]
    have R := Len_ok b d i w h hf hr
    rw [hr]
    exact R.mono fun e w' ⟨he, n, hn⟩ => ⟨he, by rw [hn]; exact (Turn.refl h).drewN n⟩
  · rw [if_pos hr]
    exact (Len_bad b d i w h hr).mono fun e w' ⟨he, hn⟩ => ⟨he, by rw [hn]; exact Turn.refl h⟩
theorem Late_any (b : Nat) (d : Dk) (i : Int) (w : World) (h : Is b d w) : Calls Try.prog 42 #[.pointer (some ⟨b, 0, none⟩), .int .i64 i] w fun e w' => e = .returned (.int .i64 (lateOf d i : Nat)) ∧ Turn b d w w' := by
  unfold lateOf
  by_cases hr : rdy d i = 0
  · rw [if_neg (not_not_intro hr)]
    exact (Late_ok b d i w h hr).mono fun e w' ⟨he, hn⟩ => ⟨he, by rw [hn]; exact Turn.refl h⟩
  · rw [if_pos hr]
    exact (Late_bad b d i w h hr).mono fun e w' ⟨he, hn⟩ => ⟨he, by rw [hn]; exact Turn.refl h⟩

theorem no_len : (⟨#[]⟩ : ByteArray).size = 0 := rfl
theorem zero_fits : zero.Fits := by unfold Dk.Fits; decide
theorem useD_fits {d : Dk} (hf : d.Fits) : (useD d).Fits := by
  unfold useD
  obtain ⟨f0, f1, f2, f3, g, g'⟩ := hf
  split
  · exact ⟨f0, f1, f2, f3, g, g'⟩
  · split
    · exact ⟨f0, f1, f2, f3, by show d.left - 1 ≤ _; omega, by show _ ≤ d.left - 1; omega⟩
    · exact ⟨f0, f1, f2, f3, g, g'⟩
theorem set_fits {d : Dk} (hf : d.Fits) (i : Int) (x y : ByteArray) (h : x.size + y.size ≤ 1048576) : ((d.setS i x).setL i y).Fits := by
  obtain ⟨f0, f1, f2, f3, g⟩ := hf
  unfold Dk.setS Dk.setL
  by_cases h0 : i = 0
  · rw [if_pos h0, if_pos h0]; exact ⟨h, f1, f2, f3, g⟩
  · rw [if_neg h0, if_neg h0]
    by_cases h1 : i = 1
    · rw [if_pos h1, if_pos h1]; exact ⟨f0, h, f2, f3, g⟩
    · rw [if_neg h1, if_neg h1]
      by_cases h2 : i = 2
      · rw [if_pos h2, if_pos h2]; exact ⟨f0, f1, h, f3, g⟩
      · rw [if_neg h2, if_neg h2]; exact ⟨f0, f1, f2, h, g⟩
theorem setS_self (d : Dk) (i : Int) : d.setS i (d.s i) = d := by
  unfold Dk.setS Dk.s
  (repeat' split) <;> rfl
theorem setL_fits {d : Dk} (hf : d.Fits) (i : Int) (y : ByteArray) (h : (d.s i).size + y.size ≤ 1048576) : (d.setL i y).Fits := by
  have := set_fits hf i (d.s i) y h
  rwa [setS_self] at this
theorem appD_fits {d : Dk} (hf : d.Fits) (i : Int) (s : ByteArray) : (appD d i s).Fits := by
  unfold appD
  split
  · exact hf
  · split
    · exact hf
    · split
      · exact useD_fits hf
      · refine setL_fits (useD_fits hf) i _ ?_
        rw [useD_s, ByteArray.size_append]
        rename_i h _
        unfold Dk.len at h
        omega
theorem synD_fits {d : Dk} (hf : d.Fits) (i : Int) : (synD d i).Fits := by
  unfold synD
  split
  · exact hf
  · split
    · exact useD_fits hf
    · refine set_fits (useD_fits hf) i _ _ ?_
      have := len_max hf i
      unfold Dk.len at this
      rw [ByteArray.size_append, no_len]
      omega
theorem cutD_fits {d : Dk} (hf : d.Fits) (i n : Int) : (cutD d i n).Fits := by
  have hm := len_max hf i
  unfold Dk.len at hm
  unfold cutD
  split
  · exact hf
  · split
    · exact hf
    · split
      · exact useD_fits hf
      · split
        · refine set_fits (useD_fits hf) i _ _ ?_
          rw [ByteArray.size_extract, no_len]
          omega
        · refine setL_fits (useD_fits hf) i _ ?_
          rw [useD_s, ByteArray.size_extract]
          omega
theorem kept_le (k : Int) (l : ByteArray) : kept k l ≤ l.size := by unfold kept; omega
theorem keep1_size (s l : ByteArray) (k : Int) : (keep1 s l k).size = s.size + kept k l := by
  have := kept_le k l
  unfold keep1
  rw [ByteArray.size_append, ByteArray.size_extract]
  omega
theorem crash_fits {d : Dk} (hf : d.Fits) (k0 k1 k2 k3 : Int) : (crash d k0 k1 k2 k3).Fits := by
  obtain ⟨f0, f1, f2, f3, g, g'⟩ := hf
  have := kept_le k0 d.l0
  have := kept_le k1 d.l1
  have := kept_le k2 d.l2
  have := kept_le k3 d.l3
  refine ⟨?_, ?_, ?_, ?_, ?_, ?_⟩
  · show (keep1 d.s0 d.l0 k0).size + (⟨#[]⟩ : ByteArray).size ≤ _; rw [keep1_size, no_len]; omega
  · show (keep1 d.s1 d.l1 k1).size + (⟨#[]⟩ : ByteArray).size ≤ _; rw [keep1_size, no_len]; omega
  · show (keep1 d.s2 d.l2 k2).size + (⟨#[]⟩ : ByteArray).size ≤ _; rw [keep1_size, no_len]; omega
  · show (keep1 d.s3 d.l3 k3).size + (⟨#[]⟩ : ByteArray).size ≤ _; rw [keep1_size, no_len]; omega
  · show (-1 : Int) ≤ _; omega
  · show _ ≤ (-1 : Int); omega
theorem useD_made (d : Dk) : (useD d).made = d.made := by unfold useD; (repeat' split) <;> rfl
theorem setS_made (d : Dk) (i : Int) (x : ByteArray) : (d.setS i x).made = d.made := by unfold Dk.setS; (repeat' split) <;> rfl
theorem setL_made (d : Dk) (i : Int) (x : ByteArray) : (d.setL i x).made = d.made := by unfold Dk.setL; (repeat' split) <;> rfl
theorem appD_made (d : Dk) (i : Int) (s : ByteArray) : (appD d i s).made = d.made := by unfold appD; (repeat' split) <;> simp only [setL_made, useD_made]
theorem synD_made (d : Dk) (i : Int) : (synD d i).made = d.made := by unfold synD; (repeat' split) <;> simp only [setL_made, setS_made, useD_made]
theorem cutD_made (d : Dk) (i n : Int) : (cutD d i n).made = d.made := by unfold cutD; (repeat' split) <;> simp only [setL_made, setS_made, useD_made]
end Go.Proofs.Ytejfdiiennnjjaa.D
namespace Go.Proofs.Ytejfdiiennnjjaa
open Go.ChangeShapes Go.WideShapes Go.RowKit
set_option linter.unusedVariables false

theorem cell_int {P : Program} {W : World} {r : Reach} {base : Nat} {t : TypeId} {v : Value} (ht : P.underlying t = some (.int .i64)) (h : Cell.okWide P W r base t v) : ∃ n, v = .int .i64 n :=
  okWide_int ht (by unfold Value.okWide; rw [ht]; exact h)
theorem cell_string {P : Program} {W : World} {r : Reach} {base : Nat} {t : TypeId} {v : Value} (ht : P.underlying t = some .string) (h : Cell.okWide P W r base t v) : ∃ s, v = .string s :=
  okWide_string ht (by unfold Value.okWide; rw [ht]; exact h)
theorem act_types : Try.prog.cellTypes Try.prog.depth 61 = some [3, 3, 9, 3, 3, 3, 3, 3] := by kernel_rfl
theorem act_size : Try.prog.cellsOf 61 = 8 := by kernel_rfl
theorem open_act_of {P : Program} {W : World} {r : Reach} {base : Nat} {v : Value} {fs : Array Field} (hu : P.underlying 61 = some (.struct fs)) (hi : P.underlying 3 = some (.int .i64)) (hst : P.underlying 9 = some .string)
    (act_types : P.cellTypes P.depth 61 = some [3, 3, 9, 3, 3, 3, 3, 3]) (act_size : P.cellsOf 61 = 8) (hv : Value.okWide P W r base 61 v) :
    ∃ (k f : Int) (s : ByteArray) (n k0 k1 k2 k3 : Int), v = .agg (D.actCells k f s n k0 k1 k2 k3) := by
  unfold Value.okWide at hv
  rw [hu] at hv
  obtain ⟨cs, rfl, hsz, ts, hts, _, hc⟩ := hv
  rw [act_types] at hts
  obtain rfl := Option.some.inj hts
  rw [act_size] at hsz
  have g : ∀ i (h : i < 8) u, [3, 3, 9, 3, 3, 3, 3, 3][i % 8]? = some u → Cell.okWide P W r base u (cs[i]'(by omega)) := fun i h u hu' => by
    obtain ⟨u', e, h'⟩ := hc i _ (Array.getElem?_eq_getElem (by omega))
    obtain rfl := Option.some.inj (e.symm.trans hu')
    exact h'
  have h0 := g 0 (by omega) 3 rfl
  have h1 := g 1 (by omega) 3 rfl
  have h2 := g 2 (by omega) 9 rfl
  have h3 := g 3 (by omega) 3 rfl
  have h4 := g 4 (by omega) 3 rfl
  have h5 := g 5 (by omega) 3 rfl
  have h6 := g 6 (by omega) 3 rfl
  have h7 := g 7 (by omega) 3 rfl
  obtain ⟨k, e0⟩ := cell_int hi h0
  obtain ⟨f, e1⟩ := cell_int hi h1
  obtain ⟨s, e2⟩ := cell_string hst h2
  obtain ⟨n, e3⟩ := cell_int hi h3
  obtain ⟨k0, e4⟩ := cell_int hi h4
  obtain ⟨k1, e5⟩ := cell_int hi h5
  obtain ⟨k2, e6⟩ := cell_int hi h6
  obtain ⟨k3, e7⟩ := cell_int hi h7
  refine ⟨k, f, s, n, k0, k1, k2, k3, ?_⟩
  congr 1
  apply Array.ext
  · rw [hsz]; rfl
  · intro i hj hj'
    rw [hsz] at hj
    obtain rfl | rfl | rfl | rfl | rfl | rfl | rfl | rfl : i = 0 ∨ i = 1 ∨ i = 2 ∨ i = 3 ∨ i = 4 ∨ i = 5 ∨ i = 6 ∨ i = 7 := by omega
    · exact e0
    · exact e1
    · exact e2
    · exact e3
    · exact e4
    · exact e5
    · exact e6
    · exact e7
set_option maxRecDepth 100000 in
theorem open_act {W : World} {r : Reach} {base : Nat} {v : Value} (hv : Value.okWide Try.prog W r base 61 v) :
    ∃ (k f : Int) (s : ByteArray) (n k0 k1 k2 k3 : Int), v = .agg (D.actCells k f s n k0 k1 k2 k3) := open_act_of Try.underlying61 Try.underlying3 Try.underlying9 act_types act_size hv
end Go.Proofs.Ytejfdiiennnjjaa
namespace Go.Proofs.Ytejfdiiennnjjaa
open Go.ChangeShapes Go.WideShapes Go.RowKit Go.Deep
set_option linter.unusedVariables false

/-- A call, as the laws of package disk take it. -/
structure Ac where
  kind : Int
  file : Int
  text : ByteArray
  n : Int
  k0 : Int
  k1 : Int
  k2 : Int
  k3 : Int
  deriving Inhabited
def Ac.cells (a : Ac) : List Value := [.int .i64 a.kind, .int .i64 a.file, .string a.text, .int .i64 a.n, .int .i64 a.k0, .int .i64 a.k1, .int .i64 a.k2, .int .i64 a.k3]
def i64b (n : Int) : Prop := -9223372036854775808 ≤ n ∧ n ≤ 9223372036854775807
def Ac.Wf (a : Ac) : Prop := i64b a.kind ∧ i64b a.file ∧ i64b a.n ∧ i64b a.k0 ∧ i64b a.k1 ∧ i64b a.k2 ∧ i64b a.k3 ∧ a.text.size ≤ maxLen
theorem i64b_of {n : Int} (h : (Lit.int .i64 n).wf = true) : i64b n := by
  simp [Lit.wf, IntKind.min, IntKind.max, IntKind.signed, IntKind.bits] at h
  unfold i64b; omega

section
variable {H : Type} {enc : TypeId × Value → H} {P : Program} {w : World} {base : Nat} {spare : Nat → Bool} {held : Bool}
theorem one_int {fuel : Nat} {t : TypeId} {c : Value} {x : DataW H × List MemPlace} (ht : P.underlying t = some (.int .i64)) (h : DataW.trod enc P w base spare held fuel t [c] = some x) : ∃ n, c = .int .i64 n ∧ i64b n := by
  obtain ⟨n, e, _, hw⟩ := DataW.trod_int ht h
  exact ⟨n, by simpa using e, i64b_of hw⟩
theorem one_text {fuel : Nat} {t : TypeId} {c : Value} {x : DataW H × List MemPlace} (ht : P.underlying t = some .string) (h : DataW.trod enc P w base spare held fuel t [c] = some x) : ∃ s, c = .string s ∧ s.size ≤ maxLen := by
  obtain ⟨n, e, _, hw⟩ := DataW.trod_string ht h
  exact ⟨n, by simpa using e, hw⟩
theorem some_at {α : Type} {l : List α} {i n : Nat} (h : l.length = n) (hi : i < n) : ∃ y, l[i]? = some y := ⟨_, List.getElem?_eq_getElem (by omega)⟩
theorem act_at {fuel : Nat} {cs : List Value} {x : DataW H × List MemPlace} {n0 n1 n2 n3 n4 : Field}
    (hu : P.underlying 61 = some (.struct #[n0, n1, n2, n3, n4])) (hn : (n0.type, n0.offset, n1.type, n1.offset, n2.type, n2.offset, n3.type, n3.offset, n4.type, n4.offset) = (3, 0, 3, 1, 9, 2, 3, 3, 59, 4))
    (ha : P.underlying 59 = some (.array 4 3)) (hi : P.underlying 3 = some (.int .i64)) (hst : P.underlying 9 = some .string)
    (z61 : P.cellsOf 61 = 8) (z59 : P.cellsOf 59 = 4) (z3 : P.cellsOf 3 = 1) (z9 : P.cellsOf 9 = 1) (h : DataW.trod enc P w base spare held fuel 61 cs = some x) : ∃ a : Ac, a.Wf ∧ cs = a.cells := by
  obtain ⟨xs, n, _, _, hlen, hxl, hf⟩ := DataW.trod_struct hu h
  simp only [Prod.mk.injEq] at hn
  obtain ⟨t0, o0, t1, o1, t2, o2, t3, o3, t4, o4⟩ := hn
  rw [z61] at hlen
  have hxl : xs.length = 5 := hxl
  have g0 := hf 0 n0 rfl
  have g1 := hf 1 n1 rfl
  have g2 := hf 2 n2 rfl
  have g3 := hf 3 n3 rfl
  have g4 := hf 4 n4 rfl
  rw [t0, o0, z3] at g0
  rw [t1, o1, z3] at g1
  rw [t2, o2, z9] at g2
  rw [t3, o3, z3] at g3
  rw [t4, o4, z59] at g4
  obtain ⟨y0, e0⟩ := some_at hxl (i := 0) (by omega)
  obtain ⟨y1, e1⟩ := some_at hxl (i := 1) (by omega)
  obtain ⟨y2, e2⟩ := some_at hxl (i := 2) (by omega)
  obtain ⟨y3, e3⟩ := some_at hxl (i := 3) (by omega)
  obtain ⟨y4, e4⟩ := some_at hxl (i := 4) (by omega)
  rw [e0] at g0
  rw [e1] at g1
  rw [e2] at g2
  rw [e3] at g3
  rw [e4] at g4
  match cs, hlen with
  | [c0, c1, c2, c3, c4, c5, c6, c7], _ =>
    obtain ⟨k, rfl, wk⟩ := one_int hi g0
    obtain ⟨f, rfl, wf⟩ := one_int hi g1
    obtain ⟨s, rfl, ws⟩ := one_text hst g2
    obtain ⟨m, rfl, wm⟩ := one_int hi g3
    obtain ⟨zs, q, _, _, hzl, hzn, hz⟩ := DataW.trod_array ha g4
    obtain ⟨u0, d0⟩ := some_at hzn (i := 0) (by omega)
    obtain ⟨u1, d1⟩ := some_at hzn (i := 1) (by omega)
    obtain ⟨u2, d2⟩ := some_at hzn (i := 2) (by omega)
    obtain ⟨u3, d3⟩ := some_at hzn (i := 3) (by omega)
    have p0 := hz 0 (by omega)
    have p1 := hz 1 (by omega)
    have p2 := hz 2 (by omega)
    have p3 := hz 3 (by omega)
    rw [z3, d0] at p0
    rw [z3, d1] at p1
    rw [z3, d2] at p2
    rw [z3, d3] at p3
    obtain ⟨a0, rfl, w0⟩ := one_int hi p0
    obtain ⟨a1, rfl, w1⟩ := one_int hi p1
    obtain ⟨a2, rfl, w2⟩ := one_int hi p2
    obtain ⟨a3, rfl, w3⟩ := one_int hi p3
    exact ⟨⟨k, f, s, m, a0, a1, a2, a3⟩, ⟨wk, wf, wm, w0, w1, w2, w3, ws⟩, rfl⟩
end

/-- The slice at that address holds those calls. -/
def Acts (A : Option Addr) (l : List Ac) (w : World) : Prop :=
  ∀ j, j < l.length → ∃ a : Addr, A = some a ∧ a.spot = none ∧ ∀ i, i < 8 → w.cell? (a.add (j * 8 + i)) = (l.getD j default).cells[i]?
theorem build_list {α : Type} [Inhabited α] (Q : Nat → α → Prop) : ∀ n : Nat, (∀ j, j < n → ∃ a, Q j a) → ∃ l : List α, l.length = n ∧ ∀ j, j < n → Q j (l.getD j default) := by
  intro n
  induction n with
  | zero => intro _; exact ⟨[], rfl, fun j h => absurd h (by omega)⟩
  | succ n ih =>
    intro h
    obtain ⟨l, hl, hq⟩ := ih fun j hj => h j (by omega)
    obtain ⟨a, ha⟩ := h n (by omega)
    refine ⟨l ++ [a], by simp [hl], fun j hj => ?_⟩
    by_cases e : j = n
    · subst e
      rw [List.getD_eq_getElem?_getD, List.getElem?_append_right (by omega)]
      simpa [hl] using ha
    · rw [List.getD_eq_getElem?_getD, List.getElem?_append_left (by omega), ← List.getD_eq_getElem?_getD]
      exact hq j (by omega)
theorem acts_at {H : Type} {enc : TypeId × Value → H} {P : Program} {W : World} {base b : Nat} {spare : Nat → Bool} {v : Value} {d : DataW H} {p : List MemPlace} {ts : List TypeId} {ds : List (DataW H)} {j : Nat} {n0 n1 n2 n3 n4 : Field}
    (hs : P.underlying 57 = some (.slice 61)) (hu : P.underlying 61 = some (.struct #[n0, n1, n2, n3, n4])) (hn : (n0.type, n0.offset, n1.type, n1.offset, n2.type, n2.offset, n3.type, n3.offset, n4.type, n4.offset) = (3, 0, 3, 1, 9, 2, 3, 3, 59, 4))
    (ha : P.underlying 59 = some (.array 4 3)) (hi : P.underlying 3 = some (.int .i64)) (hst : P.underlying 9 = some .string)
    (z61 : P.cellsOf 61 = 8) (z59 : P.cellsOf 59 = 4) (z3 : P.cellsOf 3 = 1) (z9 : P.cellsOf 9 = 1) (b61 : P.bytesOf 61 = 72)
    (hsz : (DataW.weightsEach P ts ds).all (· ≤ reachBytes) = true) (ht : ts[j]? = some 57) (hd : ds[j]? = some d)
    (hv : Value.okWide P W .any base 57 v) (h : DataW.Trod enc P W b spare true 57 v d p) :
    ∃ (A : Option Addr) (c : Nat) (l : List Ac), v = .slice A l.length c ∧ Acts A l W ∧ (∀ j, j < l.length → (l.getD j default).Wf) ∧ l.length * 72 ≤ 140737488351232 := by
  obtain ⟨a0, len, cap, rfl⟩ := okWide_slice hs hv
  obtain ⟨fuel, hf⟩ := h
  rcases open_slice hs hf with ⟨hcs, hx⟩ | ⟨a, len', cap', m, n, D, Pl, hcs, hb, hl, hm, hmm, hx, hi'⟩
  · simp [Value.cells] at hcs
    obtain ⟨rfl, rfl, rfl⟩ := hcs
    exact ⟨none, 0, [], rfl, fun j hj => absurd hj (by simp), fun j hj => absurd hj (by simp), by simp⟩
  · simp [Value.cells] at hcs
    obtain ⟨rfl, rfl, rfl⟩ := hcs
    obtain ⟨hx1, _⟩ := Prod.mk.inj hx
    subst hx1
    have hlm : len ≤ m := by rw [hmm]; split <;> omega
    have hsl := sized_slice hsz ht hd hs
    rw [b61] at hsl
    simp only [List.length_map, List.length_range] at hsl
    obtain ⟨l, hl', hq⟩ := build_list (fun (j : Nat) (x : Ac) => x.Wf ∧ ∀ i, i < 8 → W.cell? (a.add (j * 8 + i)) = x.cells[i]?) len (fun j hj => by
      obtain ⟨cs', hc, ht'⟩ := hi' j (by omega)
      obtain ⟨x, wx, rfl⟩ := act_at hu hn ha hi hst z61 z59 z3 z9 ht'
      obtain ⟨_, _, hat⟩ := World.cells?_some hc
      rw [z61] at hat
      refine ⟨x, wx, fun i hi => ?_⟩
      rw [← Go.Deep.add_add]
      exact hat i hi)
    have hr : reachBytes = 140737488351232 := rfl
    rw [hr] at hsl
    refine ⟨some a, cap, l, by rw [hl'], fun j hj => ⟨a, rfl, ?_, (hq j (by omega)).2⟩, fun j hj => (hq j (by omega)).1, by rw [hl']; omega⟩
    have h0 := (hq 0 (by omega)).2 0 (by omega)
    simp only [Addr.add, World.cell?] at h0
    cases hsp : a.spot with
    | none => rfl
    | some s =>
      simp only [hsp, Option.isSome_some, if_true, Nat.zero_mul, Nat.add_zero] at h0
      split at h0 <;> simp [Ac.cells] at h0
set_option maxRecDepth 100000 in
theorem open_acts {H : Type} {enc : TypeId × Value → H} {W : World} {base b : Nat} {spare : Nat → Bool} {v : Value} {d : DataW H} {p : List MemPlace} {ts : List TypeId} {ds : List (DataW H)} {j : Nat}
    (hsz : (DataW.weightsEach Try.prog ts ds).all (· ≤ reachBytes) = true) (ht : ts[j]? = some 57) (hd : ds[j]? = some d)
    (hv : Value.okWide Try.prog W .any base 57 v) (h : DataW.Trod enc Try.prog W b spare true 57 v d p) :
    ∃ (A : Option Addr) (c : Nat) (l : List Ac), v = .slice A l.length c ∧ Acts A l W ∧ (∀ j, j < l.length → (l.getD j default).Wf) ∧ l.length * 72 ≤ 140737488351232 :=
  acts_at Try.underlying57 Try.underlying61 rfl Try.underlying59 Try.underlying3 Try.underlying9 (by kernel_rfl) (by kernel_rfl) (by kernel_rfl) (by kernel_rfl) (by kernel_rfl) hsz ht hd hv h
/-- The acts lie where they lay, if their blocks are as they were. -/
theorem Acts.keep {A : Option Addr} {l : List Ac} {w w' : World} (h : Acts A l w) (hk : ∀ c, c < w.heap.size → w'.heap[c]? = w.heap[c]?) : Acts A l w' := by
  intro j hj
  obtain ⟨a, e, hs, hc⟩ := h j hj
  refine ⟨a, e, hs, fun i hi => ?_⟩
  have := hc i hi
  rw [← this]
  have hb : (a.add (j * 8 + i)).block = a.block := by unfold Addr.add; split <;> rfl
  have hlt : a.block < w.heap.size := by
    have h0 := hc 0 (by omega)
    simp only [World.cell?] at h0
    have hb0 : (a.add (j * 8 + 0)).block = a.block := by unfold Addr.add; split <;> rfl
    rw [hb0] at h0
    apply Classical.byContradiction
    intro hn
    rw [Array.getElem?_eq_none (by omega)] at h0
    simp [Ac.cells] at h0
  unfold World.cell?
  rw [hb, hk _ hlt]
end Go.Proofs.Ytejfdiiennnjjaa
