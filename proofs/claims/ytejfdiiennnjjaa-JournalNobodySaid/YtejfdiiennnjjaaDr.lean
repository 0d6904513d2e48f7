/- DiskNobody: the walk. -/
import Derived.Test.YtejfdiiennnjjaaDq
namespace Go.Proofs.Ytejfdiiennnjjaa.D
open Go.RowKit Go.Proofs Go.Proofs.Ytejfdiiennnjjaa
set_option linter.unusedVariables false

def none_ (n : Int) : Dk := ⟨⟨#[]⟩, ⟨#[]⟩, ⟨#[]⟩, ⟨#[]⟩, ⟨#[]⟩, ⟨#[]⟩, ⟨#[]⟩, ⟨#[]⟩, n, false, false⟩
theorem rdy_none (n i : Int) : rdy (none_ n) i = 3 := rfl
def actCells (k f : Int) (s : ByteArray) (n k0 k1 k2 k3 : Int) : Array Value := #[.int .i64 k, .int .i64 f, .string s, .int .i64 n, .int .i64 k0, .int .i64 k1, .int .i64 k2, .int .i64 k3]
/-- The blocks of DiskNobody. -/
structure Nb (B : Nat) (w0 : World) (k f : Int) (s : ByteArray) (n k0 k1 k2 k3 : Int) (w : World) : Prop where
  act : w.heap[B]? = some (.cells (actCells k f s n k0 k1 k2 k3) 61 (0, 0))
  disk : ∃ l, Is (B + 1) (none_ l) w
  row : w.heap[B + 2]? = some (.cells #[.pointer none, .pointer (some ⟨B + 1, 0, none⟩)] 51 (0, 0))
  below : Below B w0 w
section
variable {B : Nat} {w0 : World} {k f : Int} {s : ByteArray} {n k0 k1 k2 k3 : Int} {w : World}
theorem Nb.c1 (h : Nb B w0 k f s n k0 k1 k2 k3 w) : w.cell? ⟨B, 1, none⟩ = some (.int .i64 f) := by simp [World.cell?, h.act, actCells]
theorem Nb.c2 (h : Nb B w0 k f s n k0 k1 k2 k3 w) : w.cell? ⟨B, 2, none⟩ = some (.string s) := by simp [World.cell?, h.act, actCells]
theorem Nb.c3 (h : Nb B w0 k f s n k0 k1 k2 k3 w) : w.cell? ⟨B, 3, none⟩ = some (.int .i64 n) := by simp [World.cell?, h.act, actCells]
theorem Nb.c4 (h : Nb B w0 k f s n k0 k1 k2 k3 w) : w.cell? ⟨B, 4, none⟩ = some (.int .i64 k0) := by simp [World.cell?, h.act, actCells]
theorem Nb.c5 (h : Nb B w0 k f s n k0 k1 k2 k3 w) : w.cell? ⟨B, 5, none⟩ = some (.int .i64 k1) := by simp [World.cell?, h.act, actCells]
theorem Nb.c6 (h : Nb B w0 k f s n k0 k1 k2 k3 w) : w.cell? ⟨B, 6, none⟩ = some (.int .i64 k2) := by simp [World.cell?, h.act, actCells]
theorem Nb.c7 (h : Nb B w0 k f s n k0 k1 k2 k3 w) : w.cell? ⟨B, 7, none⟩ = some (.int .i64 k3) := by simp [World.cell?, h.act, actCells]
theorem Nb.r0 (h : Nb B w0 k f s n k0 k1 k2 k3 w) : w.cell? ⟨B + 1 + 1, 0, none⟩ = some (.pointer none) := by simp [World.cell?, h.row]
theorem Nb.r1 (h : Nb B w0 k f s n k0 k1 k2 k3 w) : w.cell? ⟨B + 1 + 1, 1, none⟩ = some (.pointer (some ⟨B + 1, 0, none⟩)) := by simp [World.cell?, h.row]
theorem Nb.turn {w' : World} {l : Int} (h : Nb B w0 k f s n k0 k1 k2 k3 w) (T : Turn (B + 1) (none_ l) w w') : Nb B w0 k f s n k0 k1 k2 k3 w' :=
  ⟨(T.others _ (lt_of_block h.act) (by omega)).trans h.act, ⟨l, T.is⟩, (T.others _ (lt_of_block h.row) (by omega)).trans h.row, h.below.trans (T.below B (by omega))⟩
theorem Nb.grown {w' : World} (h : Nb B w0 k f s n k0 k1 k2 k3 w) (hs : ∀ c, c < w.heap.size → w'.heap[c]? = w.heap[c]?) (hb : ∀ B, B ≤ w.heap.size → Below B w w') : Nb B w0 k f s n k0 k1 k2 k3 w' := by
  obtain ⟨l, hd⟩ := h.disk
  have hd' : w.heap[B + 1]? = _ := hd
  exact ⟨(hs _ (lt_of_block h.act)).trans h.act, ⟨l, (hs _ (lt_of_block hd')).trans hd'⟩, (hs _ (lt_of_block h.row)).trans h.row, h.below.trans (hb B (Nat.le_of_lt (lt_of_block h.act)))⟩
end
set_option maxRecDepth 100000 in
set_option maxHeartbeats 4000000 in
theorem Nobody_any (k f : Int) (s : ByteArray) (n k0 k1 k2 k3 : Int) (w : World) : Calls Try.prog 12 #[.agg (actCells k f s n k0 k1 k2 k3)] w fun e w' => e = .returned (.bool true) ∧ Below w.heap.size w w' := by
  unfold actCells
  go_enter Try.func12, Try.ntmps12
  go_wp2
  go_loopw [13] (fun i wr => ∃ m : Int, 0 ≤ m ∧ m ≤ 2 ∧ i = .int .i64 m ∧ Nb w.heap.size w k f s n k0 k1 k2 k3 wr) (fun i _ => (2 - intOf i).toNat)
  case atStart =>
    refine ⟨0, by omega, by omega, rfl, ?_, ⟨0, ?_⟩, ?_, ?_⟩
    · rw [Below.heap_alloc _ _ _ (by simp; omega), Below.heap_alloc _ _ _ (by simp)]; exact heap_alloc_new _ _
    · unfold Is; rw [Below.heap_alloc _ _ _ (by simp)]
      have := heap_alloc_new (w.alloc (Obj.cells (actCells k f s n k0 k1 k2 k3) 61)) (Obj.cells (none_ 0).cells 83)
      rw [show (w.alloc (Obj.cells (actCells k f s n k0 k1 k2 k3) 61)).heap.size = w.heap.size + 1 by simp] at this
      exact this
    · have := heap_alloc_new ((w.alloc (Obj.cells (actCells k f s n k0 k1 k2 k3) 61)).alloc (Obj.cells (none_ 0).cells 83)) (Obj.cells #[.pointer none, .pointer (some ⟨w.heap.size + 1, 0, none⟩)] 51)
      rw [show ((w.alloc (Obj.cells (actCells k f s n k0 k1 k2 k3) 61)).alloc (Obj.cells (none_ 0).cells 83)).heap.size = w.heap.size + 2 by simp] at this
      exact this
    · exact (((Below.refl _ _).alloc (Nat.le_refl _) _).alloc (by simp) _).alloc (by simp; omega) _
  case round =>
    obtain ⟨m, hm0, hm2, rfl, N⟩ := hrel
    obtain rfl | rfl | rfl : m = 0 ∨ m = 1 ∨ m = 2 := by omega
    · have r0 := N.r0
      have c1 := N.c1
      have c3 := N.c3
      have c4 := N.c4
      have c5 := N.c5
      have c6 := N.c6
      have c7 := N.c7
      go_wp2_with fail
      refine (Read_nil f _).mono ?_; rintro e w' ⟨rfl, hw⟩; replace hw := hw.symm; subst hw
      go_wp2_with fail
      refine (Len_nil f _).mono ?_; rintro e w' ⟨rfl, hw⟩; replace hw := hw.symm; subst hw
      go_wp2_with fail
      refine (Limit_nil n _).mono ?_; rintro e w' ⟨rfl, hw⟩; replace hw := hw.symm; subst hw
      go_wp2_with fail
      refine (Crash_nil k0 k1 k2 k3 _).mono ?_; rintro e w2 ⟨rfl, hz, ho, hb⟩
      have N := N.grown ho hb
      clear r0 c1 c3 c4 c5 c6 c7
      have c1 := N.c1
      have c2 := N.c2
      have c3 := N.c3
      go_wp2_with fail
      refine (Append_nil f s _).mono ?_; rintro e w' ⟨rfl, hw⟩; replace hw := hw.symm; subst hw
      go_wp2_with fail
      refine (Sync_nil f _).mono ?_; rintro e w' ⟨rfl, hw⟩; replace hw := hw.symm; subst hw
      go_wp2_with fail
      refine (Cut_nil f n _).mono ?_; rintro e w' ⟨rfl, hw⟩; replace hw := hw.symm; subst hw
      go_wp2_with fail
      refine (Late_nil f _).mono ?_; rintro e w' ⟨rfl, hw⟩; replace hw := hw.symm; subst hw
      go_wp2
      go_roundw
      case rel => exact ⟨1, by omega, by omega, rfl, N⟩
      case measure => simp [intOf]
    · obtain ⟨l, D⟩ := N.disk
      have r1 := N.r1
      have c1 := N.c1
      have c3 := N.c3
      have rn : ∀ l, ¬ rdy (none_ l) f = 0 := fun l => by rw [rdy_none]; decide
      go_wp2_with fail
      refine (Read_bad _ _ f _ D (rn l)).mono ?_; rintro e w' ⟨rfl, hw⟩; replace hw := hw.symm; subst hw
      go_wp2_with fail
      refine (Len_bad _ _ f _ D (rn l)).mono ?_; rintro e w' ⟨rfl, hw⟩; replace hw := hw.symm; subst hw
      go_wp2_with fail
      refine (Limit_any _ _ n _ D).mono ?_; rintro e w2 ⟨rfl, T⟩
      replace T : Turn (w.heap.size + 1) (none_ n) wr w2 := T
      have N2 := N.turn T
      have d4 := N2.c4
      have d5 := N2.c5
      have d6 := N2.c6
      have d7 := N2.c7
      go_wp2_with fail
      refine (Crash_unmade _ _ k0 k1 k2 k3 _ T.is rfl).mono ?_; rintro e w3 ⟨rfl, T3⟩
      have N3 := N2.turn T3
      have e1 := N3.c1
      have e2 := N3.c2
      have e3 := N3.c3
      have D3 := T3.is
      clear r1 c1 c3 d4 d5 d6 d7 T T3 N N2 D
      go_wp2_with fail
      refine (Append_bad _ _ f s _ D3 (rn n)).mono ?_; rintro e w' ⟨rfl, hw⟩; replace hw := hw.symm; subst hw
      go_wp2_with fail
      refine (Sync_bad _ _ f _ D3 (rn n)).mono ?_; rintro e w' ⟨rfl, hw⟩; replace hw := hw.symm; subst hw
      go_wp2_with fail
      refine (Cut_bad _ _ f n _ D3 (rn n)).mono ?_; rintro e w' ⟨rfl, hw⟩; replace hw := hw.symm; subst hw
      go_wp2_with fail
      refine (Late_bad _ _ f _ D3 (rn n)).mono ?_; rintro e w' ⟨rfl, hw⟩; replace hw := hw.symm; subst hw
      go_wp2
      go_roundw
      case rel => exact ⟨2, by omega, by omega, rfl, N3⟩
      case measure => simp [intOf]
    · go_wp2_with fail
      refine (awake_any _).mono ?_; rintro e w2 ⟨rfl, b2⟩
      go_wp2
      go_ret
      exact ⟨rfl, N.below.trans (b2.mono (Nat.le_of_lt (lt_of_block N.act)))⟩
end Go.Proofs.Ytejfdiiennnjjaa.D
