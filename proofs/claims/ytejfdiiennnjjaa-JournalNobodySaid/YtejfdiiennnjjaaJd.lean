/- journal's Add, where the disk takes it. -/
import Derived.Test.YtejfdiiennnjjaaJc
import Derived.Deep.RegionWith
namespace Go.Proofs.Ytejfdiiennnjjaa.J
open Go.RowKit Go.Proofs Go.Proofs.Ytejfdiiennnjjaa Go.Proofs.YtejfdiiennnjjaaW.PrintWords Go.Proofs.YtejfdiiennnjjaaW.PrintLast Go.Proofs.YtejfdiiennnjjaaW.PrintMore Go.Proofs.Ytejfdiiennnjjaa.D
set_option linter.unusedVariables false

theorem info9 : (Try.prog.info? 9).map (fun i => (i.zero, i.size, i.bytes)) = some (some (.string ⟨#[]⟩), 1, 16) := by kernel_rfl
/-- A record as it is laid. -/
def rec1 (cmd : ByteArray) : ByteArray := Facts.S (Facts.putL (Facts.L cmd))
theorem rec1_size (cmd : ByteArray) : (rec1 cmd).size = cmd.size + 12 := by unfold rec1; rw [Facts.S_size, Facts.putL_len, Facts.L_len]
theorem Put_rec (s : ByteArray) (hs : s.size ≤ 4096) (w : World) : Calls Try.prog 21 #[.string s] w fun e w' => e = .returned (.tuple #[.string (rec1 s), .int .i64 0]) ∧ Below w.heap.size w w' := Facts.Put_yes s hs w
/-- The commands grow by one. -/
theorem Jo.grow {jb B : Nat} {j : Jn} {l l' : List ByteArray} {d : Dk} {W w1 : World} {v1 : Value} (h : Jo jb j l d B W) (hg : W.grownBy w1 j.cv.ownBlock) (ho : Kd.R Kd.string 9 w1 B (fun k => k ≠ jb ∧ k ≠ j.db) v1 l') :
    Is jb j w1 ∧ Jo jb { j with cv := v1 } l' d B (w1.setCell ⟨jb, 5, none⟩ v1) := by
  have hne : ∀ k, (k = jb ∨ k = j.db) → some k ≠ j.cv.ownBlock := fun k hk e => by
    have := h.cm.1 k e.symm
    rcases hk with rfl | rfl
    · exact this.1 rfl
    · exact this.2 rfl
  have i1 : Is jb j w1 := (hg.block jb (lt_of_block h.jn) (hne _ (Or.inl rfl))).trans h.jn
  have d1 : D.Is j.db d w1 := (hg.block j.db (lt_of_block h.dk) (hne _ (Or.inr rfl))).trans h.dk
  have g : ∀ c, c ≠ jb → (w1.setCell ⟨jb, 5, none⟩ v1).heap[c]? = w1.heap[c]? := fun c hc => Below.heap_setCell _ _ _ _ hc
  exact ⟨i1, i1.p5 v1, (g _ (fun x => h.ne x.symm)).trans d1, Kd.R_step ho (fun k hk _ => g k hk.1), h.ne, h.bj, h.bd⟩
theorem turn_undrew {b : Nat} {d : Dk} {w w' : World} (T : D.Turn b d w.drew w') : D.Turn b d w w' := ⟨T.is, T.others, T.size, fun B hB => ⟨(T.below B hB).os, (T.below B hB).tape, (T.below B hB).output, (T.below B hB).size, (T.below B hB).block⟩⟩
set_option maxRecDepth 100000 in
set_option maxHeartbeats 8000000 in
theorem Add_ok (jb B : Nat) (j : Jn) (l : List ByteArray) (d : Dk) (cmd : ByteArray) (w : World) (h : Jo jb j l d B w) (hf : d.Fits) (hj : j.dead = false) (hs : cmd.size ≤ 4096) (hl : l.length ≤ 1000000000)
    (a0 : appN d j.file (rec1 cmd) = 0) (y0 : synN (appD d j.file (rec1 cmd)) j.file = 0) :
    Calls Try.prog 44 #[.pointer (some ⟨jb, 0, none⟩), .string cmd] w fun e w' => e = .returned (.int .i64 0) ∧ ∃ cv', Jo jb { j with cv := cv' } (l ++ [cmd]) (synD (appD d j.file (rec1 cmd)) j.file) B w' ∧ Below B w w' := by
  have R := ready_any jb j w h.jn
  unfold jrdy at R
  rw [hj, if_neg (by simp)] at R
  go_enter Try.func44, Try.ntmps44
  go_wp2_with fail
  refine R.mono ?_; rintro e w1 ⟨rfl, rfl⟩
  clear R
  go_wp2_with fail
  refine (Put_rec cmd hs _).mono ?_; rintro e w2 ⟨rfl, b2⟩
  have h2 := h.later b2
  have B2 : Below B w1 w2 := b2.mono (by have := lt_of_block h.jn; have := h.bj; omega)
  clear b2 h
  have c0 := h2.jn.c0
  have c1 := h2.jn.c1
  go_wp2_with fail
  go_region_with (go_at_call 32; refine (D.Append_any j.db d j.file (rec1 cmd) _ (show D.Is j.db d w2.drew from h2.dk) hf).mono ?_; rintro e w3 ⟨rfl, T⟩; rw [a0])
  all_goals
    have h3 := h2.turn (turn_undrew T)
    have B3 := B2.trans ((turn_undrew T).below B h2.bd)
    clear T c0 c1 h2 B2
    have c0 := h3.jn.c0
    have c1 := h3.jn.c1
    go_wp2_with fail
    go_region_with (go_at_call 36; refine (D.Sync_any j.db _ j.file _ (show D.Is j.db _ w3.drew from h3.dk) (appD_fits hf _ _)).mono ?_; rintro e w4 ⟨rfl, T⟩; rw [y0])
  all_goals
    have h4 := h3.turn (turn_undrew T)
    have B4 := B3.trans ((turn_undrew T).below B h3.bd)
    clear T c0 c1 h3 B3
    have c5 := h4.jn.c5
    have hlj := lt_of_block h4.jn
    have hld := lt_of_block h4.dk
    go_wp2_with (first
      | ((with_reducible refine gate_builtin (b := .append) (xs := #[.tmp 56, .tmp 58]) rfl ?_); at_builtin
         refine Kd.R_append Kd.string (w0 := w4) B rfl (.tmp 56) (.tmp 58) 32 9 (.string ⟨#[]⟩) 16 rfl Try.underlying32 info9 rfl (by decide) (by omega) j.cv l cmd [.string cmd] (fun k => k ≠ jb ∧ k ≠ j.db) (fun _ => False) rfl rfl ?aP (fun _ hk => hk.elim) ?aF ?aO ?aB ?aS ?aL ?_
         (case aP => exact rfl)
         (case aB => exact Below.refl _ _)
         (case aF => exact (fun k hk => ⟨by omega, by omega⟩))
         (case aO => exact h4.cm)
         (case aS => have := h4.bj; omega)
         (case aL => omega)
         intro v1 w5 ho hb hg hat
         obtain ⟨A1, cp1, rfl⟩ := Kd.R_slice ho
         obtain ⟨i5, J5⟩ := h4.grow hg ho
         rw [show (l ++ [cmd]).length = l.length + 1 by simp] at J5
         have f5 := i5.f5
         have c5' := i5.c5
         have B5 := B4.trans hb
         clear hb hg hat ho))
    go_ret
    exact ⟨rfl, _, J5, B5.setCell h4.bj _⟩
end Go.Proofs.Ytejfdiiennnjjaa.J
