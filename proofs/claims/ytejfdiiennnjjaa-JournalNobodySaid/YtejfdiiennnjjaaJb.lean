/- A journal in memory; ready, State, Seq. -/
import Derived.Test.YtejfdiiennnjjaaDw
import Derived.Test.YtejfdiiennnjjaaWMore
import Derived.RegionTactic
import Derived.Deep.RegionWith
namespace Go.Proofs.Ytejfdiiennnjjaa.J
open Go.RowKit Go.Proofs Go.Proofs.Ytejfdiiennnjjaa Go.Proofs.YtejfdiiennnjjaaW.PrintWords Go.Proofs.Ytejfdiiennnjjaa.D
set_option linter.unusedVariables false

/-- A journal: its disk's block; the file that counts; how many files there were; how many commands ahead; the state; the commands' slice; without power. -/
structure Jn where
  db : Nat
  file : Int
  gen : Int
  seq : Int
  state : ByteArray
  cv : Value
  dead : Bool
def Jn.cells (j : Jn) : Array Value := #[.pointer (some ⟨j.db, 0, none⟩), .int .i64 j.file, .int .i64 j.gen, .int .i64 j.seq, .string j.state, j.cv, .bool j.dead]
def Is (b : Nat) (j : Jn) (w : World) : Prop := w.heap[b]? = some (.cells j.cells 89 (0, 0))
theorem Is.get {b : Nat} {d : Jn} {w : World} (h : Is b d w) (k : Nat) (hk : k < 7) : w.cell? ⟨b, k, none⟩ = some (d.cells[k]'hk) := by
  unfold Is at h
  simp only [World.cell?, h]
  rw [Array.getElem?_eq_getElem hk]
  rfl
theorem Is.free {b : Nat} {d : Jn} {w : World} (h : Is b d w) (k : Nat) (hk : k < 7) : w.frozen? ⟨b, k, none⟩ = false := by
  unfold Is at h
  simp [World.frozen?, h]
theorem Is.put {b : Nat} {d d' : Jn} {w : World} (h : Is b d w) (k : Nat) (hk : k < 7) (v : Value) (e : d.cells.set k v hk = d'.cells) : Is b d' (w.setCell ⟨b, k, none⟩ v) := by
  unfold Is at h ⊢
  have hlt := lt_of_block h
  have h' : w.heap[b] = .cells d.cells 89 (0, 0) := by simpa [Array.getElem?_eq_getElem hlt] using h
  show (w.heap.modify b _)[b]? = _
  rw [Array.getElem?_eq_getElem (by simpa using hlt), Array.getElem_modify_self, h', ← e]
  show some (Obj.cells (d.cells.setIfInBounds k v) 89 (0, 0)) = _
  rw [Array.setIfInBounds, dif_pos (show k < d.cells.size from hk)]
theorem Is.c0 {b : Nat} {d : Jn} {w : World} (h : Is b d w) : w.cell? ⟨b, 0, none⟩ = some (.pointer (some ⟨d.db, 0, none⟩)) := h.get 0 (by decide)
theorem Is.f0 {b : Nat} {d : Jn} {w : World} (h : Is b d w) : w.frozen? ⟨b, 0, none⟩ = false := h.free 0 (by decide)
theorem Is.p0 {b : Nat} {d : Jn} {w : World} (h : Is b d w) (x : Nat) : Is b { d with db := x } (w.setCell ⟨b, 0, none⟩ (.pointer (some ⟨x, 0, none⟩))) := h.put 0 (by decide) _ rfl
theorem Is.c1 {b : Nat} {d : Jn} {w : World} (h : Is b d w) : w.cell? ⟨b, 1, none⟩ = some (.int .i64 d.file) := h.get 1 (by decide)
theorem Is.f1 {b : Nat} {d : Jn} {w : World} (h : Is b d w) : w.frozen? ⟨b, 1, none⟩ = false := h.free 1 (by decide)
theorem Is.p1 {b : Nat} {d : Jn} {w : World} (h : Is b d w) (x : Int) : Is b { d with file := x } (w.setCell ⟨b, 1, none⟩ (.int .i64 x)) := h.put 1 (by decide) _ rfl
theorem Is.c2 {b : Nat} {d : Jn} {w : World} (h : Is b d w) : w.cell? ⟨b, 2, none⟩ = some (.int .i64 d.gen) := h.get 2 (by decide)
theorem Is.f2 {b : Nat} {d : Jn} {w : World} (h : Is b d w) : w.frozen? ⟨b, 2, none⟩ = false := h.free 2 (by decide)
theorem Is.p2 {b : Nat} {d : Jn} {w : World} (h : Is b d w) (x : Int) : Is b { d with gen := x } (w.setCell ⟨b, 2, none⟩ (.int .i64 x)) := h.put 2 (by decide) _ rfl
theorem Is.c3 {b : Nat} {d : Jn} {w : World} (h : Is b d w) : w.cell? ⟨b, 3, none⟩ = some (.int .i64 d.seq) := h.get 3 (by decide)
theorem Is.f3 {b : Nat} {d : Jn} {w : World} (h : Is b d w) : w.frozen? ⟨b, 3, none⟩ = false := h.free 3 (by decide)
theorem Is.p3 {b : Nat} {d : Jn} {w : World} (h : Is b d w) (x : Int) : Is b { d with seq := x } (w.setCell ⟨b, 3, none⟩ (.int .i64 x)) := h.put 3 (by decide) _ rfl
theorem Is.c4 {b : Nat} {d : Jn} {w : World} (h : Is b d w) : w.cell? ⟨b, 4, none⟩ = some (.string d.state) := h.get 4 (by decide)
theorem Is.f4 {b : Nat} {d : Jn} {w : World} (h : Is b d w) : w.frozen? ⟨b, 4, none⟩ = false := h.free 4 (by decide)
theorem Is.p4 {b : Nat} {d : Jn} {w : World} (h : Is b d w) (x : ByteArray) : Is b { d with state := x } (w.setCell ⟨b, 4, none⟩ (.string x)) := h.put 4 (by decide) _ rfl
theorem Is.c5 {b : Nat} {d : Jn} {w : World} (h : Is b d w) : w.cell? ⟨b, 5, none⟩ = some (d.cv) := h.get 5 (by decide)
theorem Is.f5 {b : Nat} {d : Jn} {w : World} (h : Is b d w) : w.frozen? ⟨b, 5, none⟩ = false := h.free 5 (by decide)
theorem Is.p5 {b : Nat} {d : Jn} {w : World} (h : Is b d w) (x : Value) : Is b { d with cv := x } (w.setCell ⟨b, 5, none⟩ (x)) := h.put 5 (by decide) _ rfl
theorem Is.c6 {b : Nat} {d : Jn} {w : World} (h : Is b d w) : w.cell? ⟨b, 6, none⟩ = some (.bool d.dead) := h.get 6 (by decide)
theorem Is.f6 {b : Nat} {d : Jn} {w : World} (h : Is b d w) : w.frozen? ⟨b, 6, none⟩ = false := h.free 6 (by decide)
theorem Is.p6 {b : Nat} {d : Jn} {w : World} (h : Is b d w) (x : Bool) : Is b { d with dead := x } (w.setCell ⟨b, 6, none⟩ (.bool x)) := h.put 6 (by decide) _ rfl

/-- A journal with its commands, and its disk; what was made for it lies from block B on. -/
structure Jo (jb : Nat) (j : Jn) (l : List ByteArray) (d : Dk) (B : Nat) (w : World) : Prop where
  jn : Is jb j w
  dk : D.Is j.db d w
  cm : Kd.R Kd.string 9 w B (fun k => k ≠ jb ∧ k ≠ j.db) j.cv l
  ne : jb ≠ j.db
  bj : B ≤ jb
  bd : B ≤ j.db
section
variable {jb B : Nat} {j : Jn} {l : List ByteArray} {d d' : Dk} {w w' : World}
/-- The disk is turned. -/
theorem Jo.turn (h : Jo jb j l d B w) (T : D.Turn j.db d' w w') : Jo jb j l d' B w' :=
  ⟨(T.others jb (lt_of_block h.jn) h.ne).trans h.jn, T.is, Kd.R_step h.cm (fun k hk hl => T.others k hl hk.2), h.ne, h.bj, h.bd⟩
/-- Only new blocks are made. -/
theorem Jo.later (h : Jo jb j l d B w) (hb : Below w.heap.size w w') : Jo jb j l d B w' :=
  ⟨(hb.block _ (lt_of_block h.jn)).trans h.jn, (hb.block _ (lt_of_block h.dk)).trans h.dk, Kd.R_below h.cm hb, h.ne, h.bj, h.bd⟩
theorem Jo.drewN (h : Jo jb j l d B w) (n : Nat) : Jo jb j l d B (w.drewN n) := ⟨h.jn, h.dk, Kd.R_drewN h.cm n, h.ne, h.bj, h.bd⟩
/-- A cell of the journal's block is written. -/
theorem Jo.put {j' : Jn} {k : Nat} {v : Value} (h : Jo jb j l d B w) (r : Is jb j' (w.setCell ⟨jb, k, none⟩ v)) (e : j'.db = j.db) (hc : j'.cv = j.cv) : Jo jb j' l d B (w.setCell ⟨jb, k, none⟩ v) := by
  have g : ∀ c, c ≠ jb → (w.setCell ⟨jb, k, none⟩ v).heap[c]? = w.heap[c]? := fun c hc => Below.heap_setCell _ _ _ _ hc
  refine ⟨r, ?_, ?_, ?_, h.bj, ?_⟩
  · rw [e]; exact (g _ (fun x => h.ne x.symm)).trans h.dk
  · rw [e, hc]; exact Kd.R_step h.cm (fun k hk hl => g k hk.1)
  · rw [e]; exact h.ne
  · rw [e]; exact h.bd
end

def jrdy (j : Jn) : Int := if j.dead = true then 13 else 0
set_option maxRecDepth 100000 in
theorem ready_nil (w : World) : Calls Try.prog 68 #[.pointer none] w fun e w' => e = .returned (.int .i64 3) ∧ w' = w := by
  go_enter Try.func68, Try.ntmps68
  go_wp2
  go_ret
  exact ⟨rfl, rfl⟩
set_option maxRecDepth 100000 in
theorem ready_any (jb : Nat) (j : Jn) (w : World) (h : Is jb j w) : Calls Try.prog 68 #[.pointer (some ⟨jb, 0, none⟩)] w fun e w' => e = .returned (.int .i64 (jrdy j)) ∧ w' = w := by
  have c0 := h.c0
  have c6 := h.c6
  unfold jrdy
  cases hd : j.dead
  · rw [hd] at c6
    rw [if_neg (by simp)]
    go_enter Try.func68, Try.ntmps68
    go_wp2
    go_ret
    exact ⟨rfl, rfl⟩
  · rw [hd] at c6
    rw [if_pos rfl]
    go_enter Try.func68, Try.ntmps68
    go_wp2
    go_ret
    exact ⟨rfl, rfl⟩
set_option maxRecDepth 100000 in
theorem State_nil (w : World) : Calls Try.prog 46 #[.pointer none] w fun e w' => e = .returned (.string ⟨#[]⟩) ∧ w' = w := by
  go_enter Try.func46, Try.ntmps46
  go_wp2
  go_ret
  exact ⟨rfl, rfl⟩
set_option maxRecDepth 100000 in
theorem State_any (jb : Nat) (j : Jn) (w : World) (h : Is jb j w) : Calls Try.prog 46 #[.pointer (some ⟨jb, 0, none⟩)] w fun e w' => e = .returned (.string j.state) ∧ w' = w := by
  have c4 := h.c4
  go_enter Try.func46, Try.ntmps46
  go_wp2
  go_ret
  exact ⟨rfl, rfl⟩
set_option maxRecDepth 100000 in
theorem Seq_nil (w : World) : Calls Try.prog 48 #[.pointer none] w fun e w' => e = .returned (.int .i64 0) ∧ w' = w := by
  go_enter Try.func48, Try.ntmps48
  go_wp2
  go_ret
  exact ⟨rfl, rfl⟩
set_option maxRecDepth 100000 in
set_option maxHeartbeats 4000000 in
theorem Seq_any (jb : Nat) (j : Jn) (A : Option Addr) (n c : Nat) (w : World) (h : Is jb j w) (hc : j.cv = .slice A n c) (h0 : -1000000000000000000 ≤ j.seq) (h1 : j.seq ≤ 1000000000000000000) (hn : n ≤ 1000000000000000000) : Calls Try.prog 48 #[.pointer (some ⟨jb, 0, none⟩)] w fun e w' => e = .returned (.int .i64 (j.seq + n)) ∧ ∃ q, w' = w.drewN q := by
  have c3 := h.c3
  have c5 := h.c5
  rw [hc] at c5
  go_enter Try.func48, Try.ntmps48
  go_wp2_with fail
  go_region
  all_goals go_wp2
  all_goals go_ret
  all_goals exact ⟨rfl, _, rfl⟩
end Go.Proofs.Ytejfdiiennnjjaa.J
