/- No journal: nil, and one that was not made; look at a text without bytes; Open of no disk, and of one without a journal. -/
import Derived.Test.YtejfdiiennnjjaaJgi
import Derived.Laws.ResultCell
import Derived.Laws.Rows
namespace Go.Proofs.Ytejfdiiennnjjaa.J
open Go.RowKit Go.Proofs Go.Proofs.Ytejfdiiennnjjaa Go.Proofs.YtejfdiiennnjjaaW.PrintWords Go.Proofs.Ytejfdiiennnjjaa.D
set_option linter.unusedVariables false

def noCells : Array Value := #[.pointer none, .int .i64 0, .int .i64 0, .int .i64 0, .string ⟨#[]⟩, .slice none 0 0, .bool false]
/-- A journal that was not made. -/
def No (b : Nat) (w : World) : Prop := w.heap[b]? = some (.cells noCells 89 (0, 0))
section
variable {b : Nat} {w : World}
theorem No.c0 (h : No b w) : w.cell? ⟨b, 0, none⟩ = some (.pointer none) := by unfold No at h; simp [World.cell?, h, noCells]
theorem No.c3 (h : No b w) : w.cell? ⟨b, 3, none⟩ = some (.int .i64 0) := by unfold No at h; simp [World.cell?, h, noCells]
theorem No.c4 (h : No b w) : w.cell? ⟨b, 4, none⟩ = some (.string ⟨#[]⟩) := by unfold No at h; simp [World.cell?, h, noCells]
theorem No.c5 (h : No b w) : w.cell? ⟨b, 5, none⟩ = some (.slice none 0 0) := by unfold No at h; simp [World.cell?, h, noCells]
set_option maxRecDepth 100000 in
theorem ready_no (h : No b w) : Calls Try.prog 68 #[.pointer (some ⟨b, 0, none⟩)] w fun e w' => e = .returned (.int .i64 3) ∧ w' = w := by
  have c0 := h.c0
  go_enter Try.func68, Try.ntmps68
  go_wp2
  go_ret
  exact ⟨rfl, rfl⟩
set_option maxRecDepth 100000 in
theorem State_no (h : No b w) : Calls Try.prog 46 #[.pointer (some ⟨b, 0, none⟩)] w fun e w' => e = .returned (.string ⟨#[]⟩) ∧ w' = w := by
  have c4 := h.c4
  go_enter Try.func46, Try.ntmps46
  go_wp2
  go_ret
  exact ⟨rfl, rfl⟩
set_option maxRecDepth 100000 in
set_option maxHeartbeats 4000000 in
theorem Seq_no (h : No b w) : Calls Try.prog 48 #[.pointer (some ⟨b, 0, none⟩)] w fun e w' => e = .returned (.int .i64 0) ∧ ∃ q, w' = w.drewN q := by
  have c3 := h.c3
  have c5 := h.c5
  go_enter Try.func48, Try.ntmps48
  go_wp2_with fail
  go_region
  all_goals go_wp2
  all_goals go_ret
  all_goals exact ⟨rfl, _, rfl⟩
set_option maxRecDepth 100000 in
set_option maxHeartbeats 4000000 in
theorem Commands_no (h : No b w) : Calls Try.prog 47 #[.pointer (some ⟨b, 0, none⟩)] w fun e w' => ∃ A c, e = .returned (.slice A 0 c) ∧ Below w.heap.size w w' := by
  have c5 := h.c5
  clear h
  go_enter Try.func47, Try.ntmps47
  go_wp2
  go_ret
  exact ⟨_, _, rfl, Below.refl _ _⟩
set_option maxRecDepth 100000 in
theorem Add_nil (cmd : ByteArray) (w : World) : Calls Try.prog 44 #[.pointer none, .string cmd] w fun e w' => e = .returned (.int .i64 3) ∧ w' = w := by
  go_enter Try.func44, Try.ntmps44
  go_wp2_with fail
  refine (ready_nil _).mono ?_; rintro e w' ⟨rfl, rfl⟩
  go_wp2
  go_ret
  exact ⟨rfl, rfl⟩
set_option maxRecDepth 100000 in
theorem Add_no (cmd : ByteArray) (h : No b w) : Calls Try.prog 44 #[.pointer (some ⟨b, 0, none⟩), .string cmd] w fun e w' => e = .returned (.int .i64 3) ∧ w' = w := by
  go_enter Try.func44, Try.ntmps44
  go_wp2_with fail
  refine (ready_no h).mono ?_; rintro e w' ⟨rfl, rfl⟩
  go_wp2
  go_ret
  exact ⟨rfl, rfl⟩
set_option maxRecDepth 100000 in
theorem Turn_nil (cmd : ByteArray) (w : World) : Calls Try.prog 45 #[.pointer none, .string cmd] w fun e w' => e = .returned (.int .i64 3) ∧ w' = w := by
  go_enter Try.func45, Try.ntmps45
  go_wp2_with fail
  refine (ready_nil _).mono ?_; rintro e w' ⟨rfl, rfl⟩
  go_wp2
  go_ret
  exact ⟨rfl, rfl⟩
set_option maxRecDepth 100000 in
theorem Turn_no (cmd : ByteArray) (h : No b w) : Calls Try.prog 45 #[.pointer (some ⟨b, 0, none⟩), .string cmd] w fun e w' => e = .returned (.int .i64 3) ∧ w' = w := by
  go_enter Try.func45, Try.ntmps45
  go_wp2_with fail
  refine (ready_no h).mono ?_; rintro e w' ⟨rfl, rfl⟩
  go_wp2
  go_ret
  exact ⟨rfl, rfl⟩
set_option maxRecDepth 100000 in
theorem Room_nil  (w : World) : Calls Try.prog 49 #[.pointer none] w fun e w' => e = .returned (.int .i64 0) ∧ w' = w := by
  go_enter Try.func49, Try.ntmps49
  go_wp2_with fail
  refine (ready_nil _).mono ?_; rintro e w' ⟨rfl, rfl⟩
  go_wp2
  go_ret
  exact ⟨rfl, rfl⟩
set_option maxRecDepth 100000 in
theorem Room_no  (h : No b w) : Calls Try.prog 49 #[.pointer (some ⟨b, 0, none⟩)] w fun e w' => e = .returned (.int .i64 0) ∧ w' = w := by
  go_enter Try.func49, Try.ntmps49
  go_wp2_with fail
  refine (ready_no h).mono ?_; rintro e w' ⟨rfl, rfl⟩
  go_wp2
  go_ret
  exact ⟨rfl, rfl⟩
end
theorem resF {fn : Func} {p u : Tmp} (h : fn.results = #[.cell p 122, .tmp u]) (tmps : Array Value) (b : Nat) (cs : Array Value) (hc : cs.size = 5) (v : Value) (w : World) (hp : tmps.getD p undef = .pointer (some ⟨b, 0, none⟩)) (hu : tmps.getD u undef = v)
    (hb : w.heap[b]? = some (.cells cs 122 (0, 0))) : (results fn tmps).run Try.prog w = .ok (.tuple #[.agg cs, v]) w := by
  have hl := run_loadVar_row (P := Try.prog) w b 122 122 cs (0, 0) _ hb Try.underlying122 rfl (by rw [hc]; kernel_rfl)
  rw [results_cell_tmp h, hp, hu]
  simp only [asAddr, Sem.run_pure, Result.andThen]
  rw [hl]
theorem put_at {w : World} {p i : Nat} {X : Array Value} {ty : TypeId} {v : Value} (h : w.heap[p]? = some (.cells X ty (0, 0))) : (w.setCell ⟨p, i, none⟩ v).heap[p]? = some (.cells (X.setIfInBounds i v) ty (0, 0)) := by
  have hlt := lt_of_block h
  have h' : w.heap[p] = .cells X ty (0, 0) := by simpa [Array.getElem?_eq_getElem hlt] using h
  show (w.heap.modify p _)[p]? = _
  rw [Array.getElem?_eq_getElem (by simpa using hlt), Array.getElem_modify_self, h']
  rfl
def none_found : Array Value := #[.int .i64 0, .int .i64 0, .string ⟨#[]⟩, .slice none 0 0, .int .i64 0]
set_option maxRecDepth 100000 in
set_option maxHeartbeats 4000000 in
theorem look_none (w : World) : Calls Try.prog 70 #[.string ⟨#[]⟩] w fun e w' => e = .returned (.tuple #[.agg none_found, .bool false]) ∧ Below w.heap.size w w' := by
  have R : ∀ w, Calls Try.prog 28 #[.string ⟨#[]⟩] w fun e w' => ∃ v0_ : Value, e = .returned (.tuple #[v0_, .int .i64 0, .int .i64 0]) ∧ Kd.R Kd.string 9 w' w.heap.size (fun _ => True) v0_ ([] : List ByteArray) ∧ Below w.heap.size w w' := fun w => by
    refine F.frame_Read.calls 1 ⟨#[]⟩ [] 0 0 w ?_
    rfl
  go_enter Try.func70, Try.ntmps70
  go_wp2_with fail
  refine (R _).mono ?_; rintro e w1 ⟨v, rfl, r1, b1⟩
  obtain ⟨A1, c1, rfl⟩ := Kd.R_slice r1
  clear r1
  have hZ : w1.heap[w.heap.size]? = some (.cells none_found 122 (0, 0)) := (b1.block _ (by simp)).trans (heap_alloc_new _ _)
  have z0 : w1.cell? ⟨w.heap.size, 0, none⟩ = some (.int .i64 0) := by simp [World.cell?, hZ, none_found]
  have z1 : w1.cell? ⟨w.heap.size, 1, none⟩ = some (.int .i64 0) := by simp [World.cell?, hZ, none_found]
  have z2 : w1.cell? ⟨w.heap.size, 2, none⟩ = some (.string ⟨#[]⟩) := by simp [World.cell?, hZ, none_found]
  have z3 : w1.cell? ⟨w.heap.size, 3, none⟩ = some (.slice none 0 0) := by simp [World.cell?, hZ, none_found]
  have z4 : w1.cell? ⟨w.heap.size, 4, none⟩ = some (.int .i64 0) := by simp [World.cell?, hZ, none_found]
  have f0 : w1.frozen? ⟨w.heap.size, 0, none⟩ = false := by simp [World.frozen?, hZ]
  have f1 : w1.frozen? ⟨w.heap.size, 1, none⟩ = false := by simp [World.frozen?, hZ]
  have f2 : w1.frozen? ⟨w.heap.size, 2, none⟩ = false := by simp [World.frozen?, hZ]
  have f3 : w1.frozen? ⟨w.heap.size, 3, none⟩ = false := by simp [World.frozen?, hZ]
  have f4 : w1.frozen? ⟨w.heap.size, 4, none⟩ = false := by simp [World.frozen?, hZ]
  have B1 : Below w.heap.size w w1 := ((Below.refl _ _).alloc (Nat.le_refl _) _).trans (b1.mono (by simp))
  go_wp2_with fail
  refine bodyPost_ret (resF Try.results70 _ w.heap.size none_found rfl (.bool false) _ rfl rfl ?_) rfl ⟨rfl, ?_⟩
  · exact put_at (put_at (put_at (put_at (put_at hZ))))
  · exact ((((B1.setCell (Nat.le_refl _) _).setCell (Nat.le_refl _) _).setCell (Nat.le_refl _) _).setCell (Nat.le_refl _) _).setCell (Nat.le_refl _) _
end Go.Proofs.Ytejfdiiennnjjaa.J
