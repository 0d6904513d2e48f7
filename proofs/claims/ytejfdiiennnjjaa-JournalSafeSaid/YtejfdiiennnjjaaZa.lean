/- Package disk: what each method does to the disk's block. Package disk: Len, Read, Late, Append, Sync, Cut, Limit, Crash. Package disk: Append and Sync. Package disk: Cut. Package disk: Crash. -/
import Derived.Test.YtejfdiiennnjjaaProg
import Derived.Below
import Derived.WalkKit
import Derived.OneCell
import Derived.Lib.Hide
import Derived.Outline
import Derived.Deep.LoopGhost
import Derived.Deep.QuietTactic
import Derived.BigQuiet
import Derived.RegionTactic
import Derived.ChangeAlike
import Derived.LoopTactic
import Derived.Test.YtejfdiiennnjjaaWMore
namespace Go.Proofs.Ytejfdiiennnjjaa.D
open Go.RowKit Go.Proofs Go.Proofs.Ytejfdiiennnjjaa
set_option linter.unusedVariables false

/-- A disk: four files, each with what is safe and what is late; the changes left; without power; made. -/
structure Dk where
  s0 : ByteArray
  l0 : ByteArray
  s1 : ByteArray
  l1 : ByteArray
  s2 : ByteArray
  l2 : ByteArray
  s3 : ByteArray
  l3 : ByteArray
  left : Int
  dead : Bool
  made : Bool
def Dk.cells (d : Dk) : Array Value := #[.string d.s0, .string d.l0, .string d.s1, .string d.l1, .string d.s2, .string d.l2, .string d.s3, .string d.l3, .int .i64 d.left, .bool d.dead, .bool d.made]
/-- The block holds that disk. -/
def Is (b : Nat) (d : Dk) (w : World) : Prop := w.heap[b]? = some (.cells d.cells 83 (0, 0))
theorem Is.get {b : Nat} {d : Dk} {w : World} (h : Is b d w) (k : Nat) (hk : k < 11) : w.cell? ⟨b, k, none⟩ = some (d.cells[k]'hk) := by
  unfold Is at h
  simp only [World.cell?, h]
  rw [Array.getElem?_eq_getElem hk]
  rfl
theorem Is.free {b : Nat} {d : Dk} {w : World} (h : Is b d w) (k : Nat) (hk : k < 11) : w.frozen? ⟨b, k, none⟩ = false := by
  unfold Is at h
  simp [World.frozen?, h]
theorem Is.put {b : Nat} {d d' : Dk} {w : World} (h : Is b d w) (k : Nat) (hk : k < 11) (v : Value) (e : d.cells.set k v hk = d'.cells) : Is b d' (w.setCell ⟨b, k, none⟩ v) := by
  unfold Is at h ⊢
  have hlt := lt_of_block h
  have h' : w.heap[b] = .cells d.cells 83 (0, 0) := by simpa [Array.getElem?_eq_getElem hlt] using h
  show (w.heap.modify b _)[b]? = _
  rw [Array.getElem?_eq_getElem (by simpa using hlt), Array.getElem_modify_self, h', ← e]
  show some (Obj.cells (d.cells.setIfInBounds k v) 83 (0, 0)) = _
  rw [Array.setIfInBounds, dif_pos (show k < d.cells.size from hk)]
theorem Is.c0 {b : Nat} {d : Dk} {w : World} (h : Is b d w) : w.cell? ⟨b, 0, none⟩ = some (.string d.s0) := h.get 0 (by decide)
theorem Is.f0 {b : Nat} {d : Dk} {w : World} (h : Is b d w) : w.frozen? ⟨b, 0, none⟩ = false := h.free 0 (by decide)
theorem Is.p0 {b : Nat} {d : Dk} {w : World} (h : Is b d w) (x : ByteArray) : Is b { d with s0 := x } (w.setCell ⟨b, 0, none⟩ (.string x)) := h.put 0 (by decide) _ rfl
theorem Is.c1 {b : Nat} {d : Dk} {w : World} (h : Is b d w) : w.cell? ⟨b, 1, none⟩ = some (.string d.l0) := h.get 1 (by decide)
theorem Is.f1 {b : Nat} {d : Dk} {w : World} (h : Is b d w) : w.frozen? ⟨b, 1, none⟩ = false := h.free 1 (by decide)
theorem Is.p1 {b : Nat} {d : Dk} {w : World} (h : Is b d w) (x : ByteArray) : Is b { d with l0 := x } (w.setCell ⟨b, 1, none⟩ (.string x)) := h.put 1 (by decide) _ rfl
theorem Is.c2 {b : Nat} {d : Dk} {w : World} (h : Is b d w) : w.cell? ⟨b, 2, none⟩ = some (.string d.s1) := h.get 2 (by decide)
theorem Is.f2 {b : Nat} {d : Dk} {w : World} (h : Is b d w) : w.frozen? ⟨b, 2, none⟩ = false := h.free 2 (by decide)
theorem Is.p2 {b : Nat} {d : Dk} {w : World} (h : Is b d w) (x : ByteArray) : Is b { d with s1 := x } (w.setCell ⟨b, 2, none⟩ (.string x)) := h.put 2 (by decide) _ rfl
theorem Is.c3 {b : Nat} {d : Dk} {w : World} (h : Is b d w) : w.cell? ⟨b, 3, none⟩ = some (.string d.l1) := h.get 3 (by decide)
theorem Is.f3 {b : Nat} {d : Dk} {w : World} (h : Is b d w) : w.frozen? ⟨b, 3, none⟩ = false := h.free 3 (by decide)
theorem Is.p3 {b : Nat} {d : Dk} {w : World} (h : Is b d w) (x : ByteArray) : Is b { d with l1 := x } (w.setCell ⟨b, 3, none⟩ (.string x)) := h.put 3 (by decide) _ rfl
theorem Is.c4 {b : Nat} {d : Dk} {w : World} (h : Is b d w) : w.cell? ⟨b, 4, none⟩ = some (.string d.s2) := h.get 4 (by decide)
theorem Is.f4 {b : Nat} {d : Dk} {w : World} (h : Is b d w) : w.frozen? ⟨b, 4, none⟩ = false := h.free 4 (by decide)
theorem Is.p4 {b : Nat} {d : Dk} {w : World} (h : Is b d w) (x : ByteArray) : Is b { d with s2 := x } (w.setCell ⟨b, 4, none⟩ (.string x)) := h.put 4 (by decide) _ rfl
theorem Is.c5 {b : Nat} {d : Dk} {w : World} (h : Is b d w) : w.cell? ⟨b, 5, none⟩ = some (.string d.l2) := h.get 5 (by decide)
theorem Is.f5 {b : Nat} {d : Dk} {w : World} (h : Is b d w) : w.frozen? ⟨b, 5, none⟩ = false := h.free 5 (by decide)
theorem Is.p5 {b : Nat} {d : Dk} {w : World} (h : Is b d w) (x : ByteArray) : Is b { d with l2 := x } (w.setCell ⟨b, 5, none⟩ (.string x)) := h.put 5 (by decide) _ rfl
theorem Is.c6 {b : Nat} {d : Dk} {w : World} (h : Is b d w) : w.cell? ⟨b, 6, none⟩ = some (.string d.s3) := h.get 6 (by decide)
theorem Is.f6 {b : Nat} {d : Dk} {w : World} (h : Is b d w) : w.frozen? ⟨b, 6, none⟩ = false := h.free 6 (by decide)
theorem Is.p6 {b : Nat} {d : Dk} {w : World} (h : Is b d w) (x : ByteArray) : Is b { d with s3 := x } (w.setCell ⟨b, 6, none⟩ (.string x)) := h.put 6 (by decide) _ rfl
theorem Is.c7 {b : Nat} {d : Dk} {w : World} (h : Is b d w) : w.cell? ⟨b, 7, none⟩ = some (.string d.l3) := h.get 7 (by decide)
theorem Is.f7 {b : Nat} {d : Dk} {w : World} (h : Is b d w) : w.frozen? ⟨b, 7, none⟩ = false := h.free 7 (by decide)
theorem Is.p7 {b : Nat} {d : Dk} {w : World} (h : Is b d w) (x : ByteArray) : Is b { d with l3 := x } (w.setCell ⟨b, 7, none⟩ (.string x)) := h.put 7 (by decide) _ rfl
theorem Is.c8 {b : Nat} {d : Dk} {w : World} (h : Is b d w) : w.cell? ⟨b, 8, none⟩ = some (.int .i64 d.left) := h.get 8 (by decide)
theorem Is.f8 {b : Nat} {d : Dk} {w : World} (h : Is b d w) : w.frozen? ⟨b, 8, none⟩ = false := h.free 8 (by decide)
theorem Is.p8 {b : Nat} {d : Dk} {w : World} (h : Is b d w) (x : Int) : Is b { d with left := x } (w.setCell ⟨b, 8, none⟩ (.int .i64 x)) := h.put 8 (by decide) _ rfl
theorem Is.c9 {b : Nat} {d : Dk} {w : World} (h : Is b d w) : w.cell? ⟨b, 9, none⟩ = some (.bool d.dead) := h.get 9 (by decide)
theorem Is.f9 {b : Nat} {d : Dk} {w : World} (h : Is b d w) : w.frozen? ⟨b, 9, none⟩ = false := h.free 9 (by decide)
theorem Is.p9 {b : Nat} {d : Dk} {w : World} (h : Is b d w) (x : Bool) : Is b { d with dead := x } (w.setCell ⟨b, 9, none⟩ (.bool x)) := h.put 9 (by decide) _ rfl
theorem Is.c10 {b : Nat} {d : Dk} {w : World} (h : Is b d w) : w.cell? ⟨b, 10, none⟩ = some (.bool d.made) := h.get 10 (by decide)
theorem Is.f10 {b : Nat} {d : Dk} {w : World} (h : Is b d w) : w.frozen? ⟨b, 10, none⟩ = false := h.free 10 (by decide)
theorem Is.p10 {b : Nat} {d : Dk} {w : World} (h : Is b d w) (x : Bool) : Is b { d with made := x } (w.setCell ⟨b, 10, none⟩ (.bool x)) := h.put 10 (by decide) _ rfl

/-- The block holds that disk behind a call, and nothing else has changed. -/
structure Turn (b : Nat) (d : Dk) (w w' : World) : Prop where
  is : Is b d w'
  others : ∀ c, c < w.heap.size → c ≠ b → w'.heap[c]? = w.heap[c]?
  size : w.heap.size ≤ w'.heap.size
  below : ∀ B, B ≤ b → Below B w w'
theorem Turn.refl {b : Nat} {d : Dk} {w : World} (h : Is b d w) : Turn b d w w := ⟨h, fun _ _ _ => rfl, Nat.le_refl _, fun B _ => Below.refl B w⟩
theorem Turn.drew {b : Nat} {d : Dk} {w w' : World} (h : Turn b d w w') : Turn b d w w'.drew := ⟨h.is, h.others, h.size, fun B hB => (h.below B hB).drew⟩
theorem Turn.drewN {b : Nat} {d : Dk} {w w' : World} (h : Turn b d w w') (n : Nat) : Turn b d w (w'.drewN n) := ⟨h.is, h.others, h.size, fun B hB => (h.below B hB).trans ⟨rfl, rfl, rfl, Nat.le_refl _, fun _ _ => rfl⟩⟩
theorem Turn.put {b : Nat} {d d' : Dk} {w w' : World} (h : Turn b d w w') {k : Nat} {v : Value} (r : Is b d' (w'.setCell ⟨b, k, none⟩ v)) : Turn b d' w (w'.setCell ⟨b, k, none⟩ v) :=
  ⟨r, fun c hl hc => (Below.heap_setCell _ _ _ _ (by first | exact fun e => hc e | exact fun e => hc e.symm)).trans (h.others c hl hc), by have := h.size; simpa using this, fun B hB => (h.below B hB).setCell hB _⟩
theorem Turn.trans {b : Nat} {d d' : Dk} {w w1 w2 : World} (h : Turn b d w w1) (h' : Turn b d' w1 w2) : Turn b d' w w2 :=
  ⟨h'.is, fun c hl hc => (h'.others c (Nat.lt_of_lt_of_le hl h.size) hc).trans (h.others c hl hc), Nat.le_trans h.size h'.size, fun B hB => (h.below B hB).trans (h'.below B hB)⟩

def zero : Dk := ⟨⟨#[]⟩, ⟨#[]⟩, ⟨#[]⟩, ⟨#[]⟩, ⟨#[]⟩, ⟨#[]⟩, ⟨#[]⟩, ⟨#[]⟩, -1, false, true⟩
set_option maxRecDepth 100000 in
theorem New_any (w : World) : Calls Try.prog 31 #[] w fun e w' => e = .returned (.pointer (some ⟨w.heap.size, 0, none⟩)) ∧ Is w.heap.size zero w' ∧ Below w.heap.size w w' := by
  go_enter Try.func31, Try.ntmps31
  go_wp2
  go_ret
  exact ⟨rfl, by unfold Is; exact heap_alloc_new _ _, (Below.refl _ _).alloc (Nat.le_refl _) _⟩

/-- What ready answers. -/
def rdy (d : Dk) (i : Int) : Int := if d.made = false then 3 else if d.dead = true then 13 else if i < 0 ∨ 4 ≤ i then 6 else 0
set_option maxRecDepth 100000 in
theorem ready_nil (i : Int) (w : World) : Calls Try.prog 61 #[.pointer none, .int .i64 i] w fun e w' => e = .returned (.int .i64 3) ∧ w' = w := by
  go_enter Try.func61, Try.ntmps61
  go_wp2
  go_ret
  exact ⟨rfl, rfl⟩
set_option maxRecDepth 100000 in
theorem ready_any (b : Nat) (d : Dk) (i : Int) (w : World) (h : Is b d w) : Calls Try.prog 61 #[.pointer (some ⟨b, 0, none⟩), .int .i64 i] w fun e w' => e = .returned (.int .i64 (rdy d i)) ∧ w' = w := by
  have c9 := h.c9
  have c10 := h.c10
  unfold rdy
  cases hm : d.made
  · rw [hm] at c10
    rw [if_pos rfl]
    go_enter Try.func61, Try.ntmps61
    go_wp2
    go_ret
    exact ⟨rfl, rfl⟩
  · rw [hm] at c10
    rw [if_neg (by simp)]
    cases hd : d.dead
    · rw [hd] at c9
      rw [if_neg (by simp)]
      by_cases h0 : i < 0
      · rw [if_pos (Or.inl h0)]
        go_enter Try.func61, Try.ntmps61
        go_wp2
        go_ret
        exact ⟨rfl, rfl⟩
      · by_cases h4 : 4 ≤ i
        · rw [if_pos (Or.inr h4)]
          go_enter Try.func61, Try.ntmps61
          go_wp2
          go_ret
          exact ⟨rfl, rfl⟩
        · rw [if_neg (by omega)]
          go_enter Try.func61, Try.ntmps61
          go_wp2
          go_ret
          exact ⟨rfl, rfl⟩
    · rw [hd] at c9
      rw [if_pos rfl]
      go_enter Try.func61, Try.ntmps61
      go_wp2
      go_ret
      exact ⟨rfl, rfl⟩

/-- What use answers, and leaves. -/
def useN (d : Dk) : Int := if d.left = 0 then 13 else 0
def useD (d : Dk) : Dk := if d.left = 0 then { d with dead := true } else if 0 < d.left then { d with left := d.left - 1 } else d
set_option maxRecDepth 100000 in
theorem use_any (b : Nat) (d : Dk) (w : World) (h : Is b d w) (hr : d.left ≤ 9223372036854775807) : Calls Try.prog 62 #[.pointer (some ⟨b, 0, none⟩)] w fun e w' => e = .returned (.int .i64 (useN d)) ∧ Turn b (useD d) w w' := by
  have c8 := h.c8
  have c9 := h.c9
  have f8 := h.f8
  have f9 := h.f9
  unfold useN useD
  by_cases h0 : d.left = 0
  · rw [if_pos h0, if_pos h0]
    rw [h0] at c8
    have r := h.p9 true
    go_enter Try.func62, Try.ntmps62
    go_wp2
    go_ret
    exact ⟨rfl, (Turn.refl h).put r⟩
  · rw [if_neg h0, if_neg h0]
    by_cases h1 : 0 < d.left
    · rw [if_pos h1]
      have r := h.p8 (d.left - 1)
      go_enter Try.func62, Try.ntmps62
      go_wp2
      go_ret
      exact ⟨rfl, (Turn.refl h).put r⟩
    · rw [if_neg h1]
      go_enter Try.func62, Try.ntmps62
      go_wp2
      go_ret
      exact ⟨rfl, Turn.refl h⟩
end Go.Proofs.Ytejfdiiennnjjaa.D
namespace Go.Proofs.Ytejfdiiennnjjaa.D
open Go.RowKit Go.Proofs Go.Proofs.Ytejfdiiennnjjaa
set_option linter.unusedVariables false

def Dk.s (d : Dk) (i : Int) : ByteArray := if i = 0 then d.s0 else if i = 1 then d.s1 else if i = 2 then d.s2 else d.s3
def Dk.l (d : Dk) (i : Int) : ByteArray := if i = 0 then d.l0 else if i = 1 then d.l1 else if i = 2 then d.l2 else d.l3
def Dk.setS (d : Dk) (i : Int) (x : ByteArray) : Dk := if i = 0 then { d with s0 := x } else if i = 1 then { d with s1 := x } else if i = 2 then { d with s2 := x } else { d with s3 := x }
def Dk.setL (d : Dk) (i : Int) (x : ByteArray) : Dk := if i = 0 then { d with l0 := x } else if i = 1 then { d with l1 := x } else if i = 2 then { d with l2 := x } else { d with l3 := x }
/-- No file has too many bytes; the limit is a number of the language. -/
def Dk.Fits (d : Dk) : Prop := d.s0.size + d.l0.size ≤ 1048576 ∧ d.s1.size + d.l1.size ≤ 1048576 ∧ d.s2.size + d.l2.size ≤ 1048576 ∧ d.s3.size + d.l3.size ≤ 1048576 ∧ d.left ≤ 9223372036854775807 ∧ -9223372036854775808 ≤ d.left

theorem rdy_file {d : Dk} {i : Int} (h : rdy d i = 0) : d.made = true ∧ d.dead = false ∧ (i = 0 ∨ i = 1 ∨ i = 2 ∨ i = 3) := by
  unfold rdy at h
  by_cases h1 : d.made = false
  · rw [if_pos h1] at h; omega
  · rw [if_neg h1] at h
    by_cases h2 : d.dead = true
    · rw [if_pos h2] at h; omega
    · rw [if_neg h2] at h
      refine ⟨by simpa using h1, by simpa using h2, ?_⟩
      by_cases h3 : i < 0 ∨ 4 ≤ i
      · rw [if_pos h3] at h; omega
      · omega

set_option maxRecDepth 100000 in
theorem Len_nil (i : Int) (w : World) : Calls Try.prog 33 #[.pointer none, .int .i64 i] w fun e w' => e = .returned (.tuple #[.int .i64 0, .int .i64 3]) ∧ w' = w := by
  go_enter Try.func33, Try.ntmps33
  go_wp2_with fail
  refine (ready_nil i w).mono ?_; rintro e w' ⟨rfl, rfl⟩
  go_wp2
  go_ret2
  exact ⟨rfl, rfl⟩
set_option maxRecDepth 100000 in
theorem Len_bad (b : Nat) (d : Dk) (i : Int) (w : World) (h : Is b d w) (hr : ¬ rdy d i = 0) : Calls Try.prog 33 #[.pointer (some ⟨b, 0, none⟩), .int .i64 i] w fun e w' => e = .returned (.tuple #[.int .i64 0, .int .i64 (rdy d i)]) ∧ w' = w := by
  go_enter Try.func33, Try.ntmps33
  go_wp2_with fail
  refine (ready_any b d i w h).mono ?_; rintro e w' ⟨rfl, rfl⟩
  go_wp2
  go_ret2
  exact ⟨rfl, rfl⟩
set_option maxRecDepth 100000 in
theorem Len_ok (b : Nat) (d : Dk) (i : Int) (w : World) (h : Is b d w) (hf : d.Fits) (hr : rdy d i = 0) : Calls Try.prog 33 #[.pointer (some ⟨b, 0, none⟩), .int .i64 i] w fun e w' => e = .returned (.tuple #[.int .i64 ((d.s i).size + (d.l i).size : Nat), .int .i64 0]) ∧ ∃ n, w' = w.drewN n := by
  obtain ⟨f0, f1, f2, f3, _, _⟩ := hf
  have R := ready_any b d i w h
  rw [hr] at R
  obtain ⟨_, _, rfl | rfl | rfl | rfl⟩ := rdy_file hr
  · have ca := h.c0
    have cb := h.c1
    show Calls Try.prog 33 _ w fun e w' => e = .returned (.tuple #[.int .i64 (d.s0.size + d.l0.size : Nat), .int .i64 0]) ∧ ∃ n, w' = w.drewN n
    go_enter Try.func33, Try.ntmps33
    go_wp2_with fail
    refine R.mono ?_; rintro e w' ⟨rfl, rfl⟩
    go_wp2_with fail
    go_quiet (fail)
    go_wp2
    go_ret2
    exact ⟨rfl, _, rfl⟩
  · have ca := h.c2
    have cb := h.c3
    show Calls Try.prog 33 _ w fun e w' => e = .returned (.tuple #[.int .i64 (d.s1.size + d.l1.size : Nat), .int .i64 0]) ∧ ∃ n, w' = w.drewN n
    go_enter Try.func33, Try.ntmps33
    go_wp2_with fail
    refine R.mono ?_; rintro e w' ⟨rfl, rfl⟩
    go_wp2_with fail
    go_quiet (fail)
    go_wp2
    go_ret2
    exact ⟨rfl, _, rfl⟩
  · have ca := h.c4
    have cb := h.c5
    show Calls Try.prog 33 _ w fun e w' => e = .returned (.tuple #[.int .i64 (d.s2.size + d.l2.size : Nat), .int .i64 0]) ∧ ∃ n, w' = w.drewN n
    go_enter Try.func33, Try.ntmps33
    go_wp2_with fail
    refine R.mono ?_; rintro e w' ⟨rfl, rfl⟩
    go_wp2_with fail
    go_quiet (fail)
    go_wp2
    go_ret2
    exact ⟨rfl, _, rfl⟩
  · have ca := h.c6
    have cb := h.c7
    show Calls Try.prog 33 _ w fun e w' => e = .returned (.tuple #[.int .i64 (d.s3.size + d.l3.size : Nat), .int .i64 0]) ∧ ∃ n, w' = w.drewN n
    go_enter Try.func33, Try.ntmps33
    go_wp2_with fail
    refine R.mono ?_; rintro e w' ⟨rfl, rfl⟩
    go_wp2_with fail
    go_quiet (fail)
    go_wp2
    go_ret2
    exact ⟨rfl, _, rfl⟩

set_option maxRecDepth 100000 in
theorem Read_nil (i : Int) (w : World) : Calls Try.prog 41 #[.pointer none, .int .i64 i] w fun e w' => e = .returned (.tuple #[.string ⟨#[]⟩, .int .i64 3]) ∧ w' = w := by
  go_enter Try.func41, Try.ntmps41
  go_wp2_with fail
  refine (ready_nil i w).mono ?_; rintro e w' ⟨rfl, rfl⟩
  go_wp2
  go_ret2
  exact ⟨rfl, rfl⟩
set_option maxRecDepth 100000 in
theorem Read_bad (b : Nat) (d : Dk) (i : Int) (w : World) (h : Is b d w) (hr : ¬ rdy d i = 0) : Calls Try.prog 41 #[.pointer (some ⟨b, 0, none⟩), .int .i64 i] w fun e w' => e = .returned (.tuple #[.string ⟨#[]⟩, .int .i64 (rdy d i)]) ∧ w' = w := by
  go_enter Try.func41, Try.ntmps41
  go_wp2_with fail
  refine (ready_any b d i w h).mono ?_; rintro e w' ⟨rfl, rfl⟩
  go_wp2
  go_ret2
  exact ⟨rfl, rfl⟩
set_option maxRecDepth 100000 in
theorem Read_ok (b : Nat) (d : Dk) (i : Int) (w : World) (h : Is b d w) (hf : d.Fits) (hr : rdy d i = 0) : Calls Try.prog 41 #[.pointer (some ⟨b, 0, none⟩), .int .i64 i] w fun e w' => e = .returned (.tuple #[.string (d.s i ++ d.l i), .int .i64 0]) ∧ ∃ n, w' = w.drewN n := by
  obtain ⟨f0, f1, f2, f3, _, _⟩ := hf
  have R := ready_any b d i w h
  rw [hr] at R
  obtain ⟨_, _, rfl | rfl | rfl | rfl⟩ := rdy_file hr
  · have ca := h.c0
    have cb := h.c1
    have z : ¬ 9223372036854775807 < d.s0.size + d.l0.size := by omega
    show Calls Try.prog 41 _ w fun e w' => e = .returned (.tuple #[.string (d.s0 ++ d.l0), .int .i64 0]) ∧ ∃ n, w' = w.drewN n
    go_enter Try.func41, Try.ntmps41
    go_wp2_with fail
    refine R.mono ?_; rintro e w' ⟨rfl, rfl⟩
    go_wp2_with fail
    go_quiet (fail)
    go_wp2
    go_ret2
    exact ⟨rfl, _, rfl⟩
  · have ca := h.c2
    have cb := h.c3
    have z : ¬ 9223372036854775807 < d.s1.size + d.l1.size := by omega
    show Calls Try.prog 41 _ w fun e w' => e = .returned (.tuple #[.string (d.s1 ++ d.l1), .int .i64 0]) ∧ ∃ n, w' = w.drewN n
    go_enter Try.func41, Try.ntmps41
    go_wp2_with fail
    refine R.mono ?_; rintro e w' ⟨rfl, rfl⟩
    go_wp2_with fail
    go_quiet (fail)
    go_wp2
    go_ret2
    exact ⟨rfl, _, rfl⟩
  · have ca := h.c4
    have cb := h.c5
    have z : ¬ 9223372036854775807 < d.s2.size + d.l2.size := by omega
    show Calls Try.prog 41 _ w fun e w' => e = .returned (.tuple #[.string (d.s2 ++ d.l2), .int .i64 0]) ∧ ∃ n, w' = w.drewN n
    go_enter Try.func41, Try.ntmps41
    go_wp2_with fail
    refine R.mono ?_; rintro e w' ⟨rfl, rfl⟩
    go_wp2_with fail
    go_quiet (fail)
    go_wp2
    go_ret2
    exact ⟨rfl, _, rfl⟩
  · have ca := h.c6
    have cb := h.c7
    have z : ¬ 9223372036854775807 < d.s3.size + d.l3.size := by omega
    show Calls Try.prog 41 _ w fun e w' => e = .returned (.tuple #[.string (d.s3 ++ d.l3), .int .i64 0]) ∧ ∃ n, w' = w.drewN n
    go_enter Try.func41, Try.ntmps41
    go_wp2_with fail
    refine R.mono ?_; rintro e w' ⟨rfl, rfl⟩
    go_wp2_with fail
    go_quiet (fail)
    go_wp2
    go_ret2
    exact ⟨rfl, _, rfl⟩

set_option maxRecDepth 100000 in
theorem Late_nil (i : Int) (w : World) : Calls Try.prog 42 #[.pointer none, .int .i64 i] w fun e w' => e = .returned (.int .i64 0) ∧ w' = w := by
  go_enter Try.func42, Try.ntmps42
  go_wp2_with fail
  refine (ready_nil i w).mono ?_; rintro e w' ⟨rfl, rfl⟩
  go_wp2
  go_ret
  exact ⟨rfl, rfl⟩
set_option maxRecDepth 100000 in
theorem Late_bad (b : Nat) (d : Dk) (i : Int) (w : World) (h : Is b d w) (hr : ¬ rdy d i = 0) : Calls Try.prog 42 #[.pointer (some ⟨b, 0, none⟩), .int .i64 i] w fun e w' => e = .returned (.int .i64 0) ∧ w' = w := by
  go_enter Try.func42, Try.ntmps42
  go_wp2_with fail
  refine (ready_any b d i w h).mono ?_; rintro e w' ⟨rfl, rfl⟩
  go_wp2
  go_ret
  exact ⟨rfl, rfl⟩
set_option maxRecDepth 100000 in
theorem Late_ok (b : Nat) (d : Dk) (i : Int) (w : World) (h : Is b d w) (hr : rdy d i = 0) : Calls Try.prog 42 #[.pointer (some ⟨b, 0, none⟩), .int .i64 i] w fun e w' => e = .returned (.int .i64 ((d.l i).size : Nat)) ∧ w' = w := by
  have R := ready_any b d i w h
  rw [hr] at R
  obtain ⟨_, _, rfl | rfl | rfl | rfl⟩ := rdy_file hr
  · have cb := h.c1
    show Calls Try.prog 42 _ w fun e w' => e = .returned (.int .i64 (d.l0.size : Nat)) ∧ w' = w
    go_enter Try.func42, Try.ntmps42
    go_wp2_with fail
    refine R.mono ?_; rintro e w' ⟨rfl, rfl⟩
    go_wp2
    go_ret
    exact ⟨rfl, rfl⟩
  · have cb := h.c3
    show Calls Try.prog 42 _ w fun e w' => e = .returned (.int .i64 (d.l1.size : Nat)) ∧ w' = w
    go_enter Try.func42, Try.ntmps42
    go_wp2_with fail
    refine R.mono ?_; rintro e w' ⟨rfl, rfl⟩
    go_wp2
    go_ret
    exact ⟨rfl, rfl⟩
  · have cb := h.c5
    show Calls Try.prog 42 _ w fun e w' => e = .returned (.int .i64 (d.l2.size : Nat)) ∧ w' = w
    go_enter Try.func42, Try.ntmps42
    go_wp2_with fail
    refine R.mono ?_; rintro e w' ⟨rfl, rfl⟩
    go_wp2
    go_ret
    exact ⟨rfl, rfl⟩
  · have cb := h.c7
    show Calls Try.prog 42 _ w fun e w' => e = .returned (.int .i64 (d.l3.size : Nat)) ∧ w' = w
    go_enter Try.func42, Try.ntmps42
    go_wp2_with fail
    refine R.mono ?_; rintro e w' ⟨rfl, rfl⟩
    go_wp2
    go_ret
    exact ⟨rfl, rfl⟩

set_option maxRecDepth 100000 in
theorem Limit_nil (i : Int) (w : World) : Calls Try.prog 35 #[.pointer none, .int .i64 i] w fun e w' => e = .returned (.tuple #[]) ∧ w' = w := by
  go_enter Try.func35, Try.ntmps35
  go_wp2
  go_end0
  exact ⟨rfl, rfl⟩
set_option maxRecDepth 100000 in
theorem Limit_any (b : Nat) (d : Dk) (n : Int) (w : World) (h : Is b d w) : Calls Try.prog 35 #[.pointer (some ⟨b, 0, none⟩), .int .i64 n] w fun e w' => e = .returned (.tuple #[]) ∧ Turn b { d with left := n } w w' := by
  have c8 := h.c8
  have f8 := h.f8
  have r := h.p8 n
  go_enter Try.func35, Try.ntmps35
  go_wp2
  go_end0
  exact ⟨rfl, (Turn.refl h).put r⟩

end Go.Proofs.Ytejfdiiennnjjaa.D
namespace Go.Proofs.Ytejfdiiennnjjaa.D
open Go.RowKit Go.Proofs Go.Proofs.Ytejfdiiennnjjaa
set_option linter.unusedVariables false

def Dk.len (d : Dk) (i : Int) : Nat := (d.s i).size + (d.l i).size
theorem useD_s (d : Dk) (i : Int) : (useD d).s i = d.s i := by unfold useD; (repeat' split) <;> rfl
theorem useD_l (d : Dk) (i : Int) : (useD d).l i = d.l i := by unfold useD; (repeat' split) <;> rfl
theorem len_max {d : Dk} (hf : d.Fits) (i : Int) : d.len i ≤ 1048576 := by
  obtain ⟨f0, f1, f2, f3, _, _⟩ := hf
  unfold Dk.len Dk.s Dk.l
  split
  · exact f0
  · split
    · exact f1
    · split
      · exact f2
      · exact f3

set_option maxRecDepth 100000 in
theorem Append_nil (i : Int) (s : ByteArray) (w : World) : Calls Try.prog 32 #[.pointer none, .int .i64 i, .string s] w fun e w' => e = .returned (.int .i64 3) ∧ w' = w := by
  go_enter Try.func32, Try.ntmps32
  go_wp2_with fail
  refine (ready_nil i w).mono ?_; rintro e w' ⟨rfl, rfl⟩
  go_wp2
  go_ret
  exact ⟨rfl, rfl⟩
set_option maxRecDepth 100000 in
theorem Append_bad (b : Nat) (d : Dk) (i : Int) (s : ByteArray) (w : World) (h : Is b d w) (hr : ¬ rdy d i = 0) : Calls Try.prog 32 #[.pointer (some ⟨b, 0, none⟩), .int .i64 i, .string s] w fun e w' => e = .returned (.int .i64 (rdy d i)) ∧ w' = w := by
  go_enter Try.func32, Try.ntmps32
  go_wp2_with fail
  refine (ready_any b d i w h).mono ?_; rintro e w' ⟨rfl, rfl⟩
  go_wp2
  go_ret
  exact ⟨rfl, rfl⟩
set_option maxRecDepth 100000 in
theorem Append_full (b : Nat) (d : Dk) (i : Int) (s : ByteArray) (w : World) (h : Is b d w) (hf : d.Fits) (hr : rdy d i = 0) (hs : 1048576 < d.len i + s.size) : Calls Try.prog 32 #[.pointer (some ⟨b, 0, none⟩), .int .i64 i, .string s] w fun e w' => e = .returned (.int .i64 18) ∧ ∃ n, w' = w.drewN n := by
  have R := ready_any b d i w h
  rw [hr] at R
  have L := Len_ok b d i w h hf hr
  have hm := len_max hf i
  change Calls _ _ _ _ (fun e w' => e = .returned (.tuple #[.int .i64 (d.len i : Nat), .int .i64 0]) ∧ ∃ n, w' = w.drewN n) at L
  generalize d.len i = m at *
  have h1 : (1048576 : Int) - (m : Int) < (s.size : Int) := by omega
  go_enter Try.func32, Try.ntmps32
  go_wp2_with fail
  refine R.mono ?_; rintro e w' ⟨rfl, rfl⟩
  go_wp2_with fail
  refine L.mono ?_; rintro e w' ⟨rfl, nq, rfl⟩
  go_wp2
  go_ret
  exact ⟨rfl, _, rfl⟩
set_option maxRecDepth 100000 in
theorem Append_dead (b : Nat) (d : Dk) (i : Int) (s : ByteArray) (w : World) (h : Is b d w) (hf : d.Fits) (hr : rdy d i = 0) (hs : d.len i + s.size ≤ 1048576) (h0 : d.left = 0) : Calls Try.prog 32 #[.pointer (some ⟨b, 0, none⟩), .int .i64 i, .string s] w fun e w' => e = .returned (.int .i64 13) ∧ Turn b (useD d) w w' := by
  have R := ready_any b d i w h
  rw [hr] at R
  have L := Len_ok b d i w h hf hr
  have hm := len_max hf i
  change Calls _ _ _ _ (fun e w' => e = .returned (.tuple #[.int .i64 (d.len i : Nat), .int .i64 0]) ∧ ∃ n, w' = w.drewN n) at L
  generalize d.len i = m at *
  have h1 : ¬ (1048576 : Int) - (m : Int) < (s.size : Int) := by omega
  go_enter Try.func32, Try.ntmps32
  go_wp2_with fail
  refine R.mono ?_; rintro e w' ⟨rfl, rfl⟩
  go_wp2_with fail
  refine L.mono ?_; rintro e w' ⟨rfl, nq, rfl⟩
  go_wp2_with fail
  have U := use_any b d _ ((Turn.refl h).drewN nq).is hf.2.2.2.2.1
  rw [show useN d = 13 by unfold useN; rw [if_pos h0]] at U
  refine U.mono ?_; rintro e w1 ⟨rfl, T⟩
  go_wp2
  go_ret
  exact ⟨rfl, ((Turn.refl h).drewN nq).trans T⟩
set_option maxRecDepth 100000 in
theorem Append_ok (b : Nat) (d : Dk) (i : Int) (s : ByteArray) (w : World) (h : Is b d w) (hf : d.Fits) (hr : rdy d i = 0) (hs : d.len i + s.size ≤ 1048576) (h0 : ¬ d.left = 0) : Calls Try.prog 32 #[.pointer (some ⟨b, 0, none⟩), .int .i64 i, .string s] w fun e w' => e = .returned (.int .i64 0) ∧ Turn b ((useD d).setL i (d.l i ++ s)) w w' := by
  have R := ready_any b d i w h
  rw [hr] at R
  have L := Len_ok b d i w h hf hr
  have hm := len_max hf i
  have hl : (d.l i).size ≤ d.len i := by unfold Dk.len; omega
  change Calls _ _ _ _ (fun e w' => e = .returned (.tuple #[.int .i64 (d.len i : Nat), .int .i64 0]) ∧ ∃ n, w' = w.drewN n) at L
  generalize d.len i = m at *
  have h1 : ¬ (1048576 : Int) - (m : Int) < (s.size : Int) := by omega
  have hz : ¬ 9223372036854775807 < (d.l i).size + s.size := by omega
  rw [← useD_l] at hz ⊢
  have U : ∀ nq, _ := fun nq => use_any b d _ ((Turn.refl h).drewN nq).is hf.2.2.2.2.1
  rw [show useN d = 0 by unfold useN; rw [if_neg h0]] at U
  generalize useD d = d' at *
  obtain ⟨_, _, rfl | rfl | rfl | rfl⟩ := rdy_file hr
  · change ¬ 9223372036854775807 < d'.l0.size + s.size at hz
    go_enter Try.func32, Try.ntmps32
    go_wp2_with fail
    refine R.mono ?_; rintro e w' ⟨rfl, rfl⟩
    go_wp2_with fail
    refine L.mono ?_; rintro e w' ⟨rfl, nq, rfl⟩
    go_wp2_with fail
    refine (U nq).mono ?_; rintro e w1 ⟨rfl, T⟩
    have T1 := ((Turn.refl h).drewN nq).trans T
    have c := T.is.c1
    have f := T.is.f1
    have r := T.is.p1 (d'.l0 ++ s)
    clear T U L R
    go_wp2_with fail
    go_region
    go_wp2
    go_ret
    exact ⟨rfl, by first | exact T1.put r | exact (T1.put r).drew | exact (T1.put r).drewN _⟩
  · change ¬ 9223372036854775807 < d'.l1.size + s.size at hz
    go_enter Try.func32, Try.ntmps32
    go_wp2_with fail
    refine R.mono ?_; rintro e w' ⟨rfl, rfl⟩
    go_wp2_with fail
    refine L.mono ?_; rintro e w' ⟨rfl, nq, rfl⟩
    go_wp2_with fail
    refine (U nq).mono ?_; rintro e w1 ⟨rfl, T⟩
    have T1 := ((Turn.refl h).drewN nq).trans T
    have c := T.is.c3
    have f := T.is.f3
    have r := T.is.p3 (d'.l1 ++ s)
    clear T U L R
    go_wp2_with fail
    go_region
    go_wp2
    go_ret
    exact ⟨rfl, by first | exact T1.put r | exact (T1.put r).drew | exact (T1.put r).drewN _⟩
  · change ¬ 9223372036854775807 < d'.l2.size + s.size at hz
    go_enter Try.func32, Try.ntmps32
    go_wp2_with fail
    refine R.mono ?_; rintro e w' ⟨rfl, rfl⟩
    go_wp2_with fail
    refine L.mono ?_; rintro e w' ⟨rfl, nq, rfl⟩
    go_wp2_with fail
    refine (U nq).mono ?_; rintro e w1 ⟨rfl, T⟩
    have T1 := ((Turn.refl h).drewN nq).trans T
    have c := T.is.c5
    have f := T.is.f5
    have r := T.is.p5 (d'.l2 ++ s)
    clear T U L R
    go_wp2_with fail
    go_region
    go_wp2
    go_ret
    exact ⟨rfl, by first | exact T1.put r | exact (T1.put r).drew | exact (T1.put r).drewN _⟩
  · change ¬ 9223372036854775807 < d'.l3.size + s.size at hz
    go_enter Try.func32, Try.ntmps32
    go_wp2_with fail
    refine R.mono ?_; rintro e w' ⟨rfl, rfl⟩
    go_wp2_with fail
    refine L.mono ?_; rintro e w' ⟨rfl, nq, rfl⟩
    go_wp2_with fail
    refine (U nq).mono ?_; rintro e w1 ⟨rfl, T⟩
    have T1 := ((Turn.refl h).drewN nq).trans T
    have c := T.is.c7
    have f := T.is.f7
    have r := T.is.p7 (d'.l3 ++ s)
    clear T U L R
    go_wp2_with fail
    go_region
    go_wp2
    go_ret
    exact ⟨rfl, by first | exact T1.put r | exact (T1.put r).drew | exact (T1.put r).drewN _⟩

set_option maxRecDepth 100000 in
theorem Sync_nil (i : Int) (w : World) : Calls Try.prog 36 #[.pointer none, .int .i64 i] w fun e w' => e = .returned (.int .i64 3) ∧ w' = w := by
  go_enter Try.func36, Try.ntmps36
  go_wp2_with fail
  refine (ready_nil i w).mono ?_; rintro e w' ⟨rfl, rfl⟩
  go_wp2
  go_ret
  exact ⟨rfl, rfl⟩
set_option maxRecDepth 100000 in
theorem Sync_bad (b : Nat) (d : Dk) (i : Int) (w : World) (h : Is b d w) (hr : ¬ rdy d i = 0) : Calls Try.prog 36 #[.pointer (some ⟨b, 0, none⟩), .int .i64 i] w fun e w' => e = .returned (.int .i64 (rdy d i)) ∧ w' = w := by
  go_enter Try.func36, Try.ntmps36
  go_wp2_with fail
  refine (ready_any b d i w h).mono ?_; rintro e w' ⟨rfl, rfl⟩
  go_wp2
  go_ret
  exact ⟨rfl, rfl⟩
set_option maxRecDepth 100000 in
theorem Sync_dead (b : Nat) (d : Dk) (i : Int) (w : World) (h : Is b d w) (hf : d.Fits) (hr : rdy d i = 0) (h0 : d.left = 0) : Calls Try.prog 36 #[.pointer (some ⟨b, 0, none⟩), .int .i64 i] w fun e w' => e = .returned (.int .i64 13) ∧ Turn b (useD d) w w' := by
  have R := ready_any b d i w h
  rw [hr] at R
  go_enter Try.func36, Try.ntmps36
  go_wp2_with fail
  refine R.mono ?_; rintro e w' ⟨rfl, rfl⟩
  go_wp2_with fail
  have U := use_any b d _ h hf.2.2.2.2.1
  rw [show useN d = 13 by unfold useN; rw [if_pos h0]] at U
  refine U.mono ?_; rintro e w1 ⟨rfl, T⟩
  go_wp2
  go_ret
  exact ⟨rfl, T⟩
set_option maxRecDepth 100000 in
theorem Sync_ok (b : Nat) (d : Dk) (i : Int) (w : World) (h : Is b d w) (hf : d.Fits) (hr : rdy d i = 0) (h0 : ¬ d.left = 0) : Calls Try.prog 36 #[.pointer (some ⟨b, 0, none⟩), .int .i64 i] w fun e w' => e = .returned (.int .i64 0) ∧ Turn b (((useD d).setS i (d.s i ++ d.l i)).setL i ⟨#[]⟩) w w' := by
  have R := ready_any b d i w h
  rw [hr] at R
  have hm := len_max hf i
  have hz : ¬ 9223372036854775807 < (d.s i).size + (d.l i).size := by unfold Dk.len at hm; omega
  rw [← useD_l, ← useD_s] at hz ⊢
  have U := use_any b d _ h hf.2.2.2.2.1
  rw [show useN d = 0 by unfold useN; rw [if_neg h0]] at U
  generalize useD d = d' at *
  obtain ⟨_, _, rfl | rfl | rfl | rfl⟩ := rdy_file hr
  · change ¬ 9223372036854775807 < d'.s0.size + d'.l0.size at hz
    go_enter Try.func36, Try.ntmps36
    go_wp2_with fail
    refine R.mono ?_; rintro e w' ⟨rfl, rfl⟩
    go_wp2_with fail
    refine U.mono ?_; rintro e w1 ⟨rfl, T⟩
    have c := T.is.c0
    have c2 := T.is.c1
    have f := T.is.f0
    have f2 := T.is.f1
    have r := T.is.p0 (d'.s0 ++ d'.l0)
    have f3 := r.f1
    have c3 := r.c1
    have r2 := r.p1 ⟨#[]⟩
    clear U R
    go_wp2_with fail
    go_region
    all_goals (go_wp2; go_ret; exact ⟨rfl, by first | exact (T.put r).put r2 | exact ((T.put r).put r2).drew | exact ((T.put r).put r2).drewN _⟩)
  · change ¬ 9223372036854775807 < d'.s1.size + d'.l1.size at hz
    go_enter Try.func36, Try.ntmps36
    go_wp2_with fail
    refine R.mono ?_; rintro e w' ⟨rfl, rfl⟩
    go_wp2_with fail
    refine U.mono ?_; rintro e w1 ⟨rfl, T⟩
    have c := T.is.c2
    have c2 := T.is.c3
    have f := T.is.f2
    have f2 := T.is.f3
    have r := T.is.p2 (d'.s1 ++ d'.l1)
    have f3 := r.f3
    have c3 := r.c3
    have r2 := r.p3 ⟨#[]⟩
    clear U R
    go_wp2_with fail
    go_region
    all_goals (go_wp2; go_ret; exact ⟨rfl, by first | exact (T.put r).put r2 | exact ((T.put r).put r2).drew | exact ((T.put r).put r2).drewN _⟩)
  · change ¬ 9223372036854775807 < d'.s2.size + d'.l2.size at hz
    go_enter Try.func36, Try.ntmps36
    go_wp2_with fail
    refine R.mono ?_; rintro e w' ⟨rfl, rfl⟩
    go_wp2_with fail
    refine U.mono ?_; rintro e w1 ⟨rfl, T⟩
    have c := T.is.c4
    have c2 := T.is.c5
    have f := T.is.f4
    have f2 := T.is.f5
    have r := T.is.p4 (d'.s2 ++ d'.l2)
    have f3 := r.f5
    have c3 := r.c5
    have r2 := r.p5 ⟨#[]⟩
    clear U R
    go_wp2_with fail
    go_region
    all_goals (go_wp2; go_ret; exact ⟨rfl, by first | exact (T.put r).put r2 | exact ((T.put r).put r2).drew | exact ((T.put r).put r2).drewN _⟩)
  · change ¬ 9223372036854775807 < d'.s3.size + d'.l3.size at hz
    go_enter Try.func36, Try.ntmps36
    go_wp2_with fail
    refine R.mono ?_; rintro e w' ⟨rfl, rfl⟩
    go_wp2_with fail
    refine U.mono ?_; rintro e w1 ⟨rfl, T⟩
    have c := T.is.c6
    have c2 := T.is.c7
    have f := T.is.f6
    have f2 := T.is.f7
    have r := T.is.p6 (d'.s3 ++ d'.l3)
    have f3 := r.f7
    have c3 := r.c7
    have r2 := r.p7 ⟨#[]⟩
    clear U R
    go_wp2_with fail
    go_region
    all_goals (go_wp2; go_ret; exact ⟨rfl, by first | exact (T.put r).put r2 | exact ((T.put r).put r2).drew | exact ((T.put r).put r2).drewN _⟩)

end Go.Proofs.Ytejfdiiennnjjaa.D
namespace Go.Proofs.Ytejfdiiennnjjaa.D
open Go.RowKit Go.Proofs Go.Proofs.Ytejfdiiennnjjaa
set_option linter.unusedVariables false

set_option maxRecDepth 100000 in
theorem Cut_nil (i n : Int) (w : World) : Calls Try.prog 43 #[.pointer none, .int .i64 i, .int .i64 n] w fun e w' => e = .returned (.int .i64 3) ∧ w' = w := by
  go_enter Try.func43, Try.ntmps43
  go_wp2_with fail
  refine (ready_nil i w).mono ?_; rintro e w' ⟨rfl, rfl⟩
  go_wp2
  go_ret
  exact ⟨rfl, rfl⟩
set_option maxRecDepth 100000 in
theorem Cut_bad (b : Nat) (d : Dk) (i n : Int) (w : World) (h : Is b d w) (hr : ¬ rdy d i = 0) : Calls Try.prog 43 #[.pointer (some ⟨b, 0, none⟩), .int .i64 i, .int .i64 n] w fun e w' => e = .returned (.int .i64 (rdy d i)) ∧ w' = w := by
  go_enter Try.func43, Try.ntmps43
  go_wp2_with fail
  refine (ready_any b d i w h).mono ?_; rintro e w' ⟨rfl, rfl⟩
  go_wp2
  go_ret
  exact ⟨rfl, rfl⟩
set_option maxRecDepth 100000 in
theorem Cut_arg (b : Nat) (d : Dk) (i n : Int) (w : World) (h : Is b d w) (hf : d.Fits) (hr : rdy d i = 0) (hn : n < 0 ∨ (d.len i : Int) < n) : Calls Try.prog 43 #[.pointer (some ⟨b, 0, none⟩), .int .i64 i, .int .i64 n] w fun e w' => e = .returned (.int .i64 1) ∧ ∃ q, w' = w.drewN q := by
  have R := ready_any b d i w h
  rw [hr] at R
  have L := Len_ok b d i w h hf hr
  change Calls _ _ _ _ (fun e w' => e = .returned (.tuple #[.int .i64 (d.len i : Nat), .int .i64 0]) ∧ ∃ n, w' = w.drewN n) at L
  generalize d.len i = m at *
  by_cases h0 : n < 0
  · go_enter Try.func43, Try.ntmps43
    go_wp2_with fail
    refine R.mono ?_; rintro e w' ⟨rfl, rfl⟩
    go_wp2_with fail
    refine L.mono ?_; rintro e w' ⟨rfl, nq, rfl⟩
    go_wp2
    go_ret
    exact ⟨rfl, _, rfl⟩
  · have h1 : (m : Int) < n := by omega
    go_enter Try.func43, Try.ntmps43
    go_wp2_with fail
    refine R.mono ?_; rintro e w' ⟨rfl, rfl⟩
    go_wp2_with fail
    refine L.mono ?_; rintro e w' ⟨rfl, nq, rfl⟩
    go_wp2
    go_ret
    exact ⟨rfl, _, rfl⟩
set_option maxRecDepth 100000 in
theorem Cut_dead (b : Nat) (d : Dk) (i n : Int) (w : World) (h : Is b d w) (hf : d.Fits) (hr : rdy d i = 0) (hn : 0 ≤ n) (hn2 : n ≤ d.len i) (h0 : d.left = 0) : Calls Try.prog 43 #[.pointer (some ⟨b, 0, none⟩), .int .i64 i, .int .i64 n] w fun e w' => e = .returned (.int .i64 13) ∧ Turn b (useD d) w w' := by
  have R := ready_any b d i w h
  rw [hr] at R
  have L := Len_ok b d i w h hf hr
  change Calls _ _ _ _ (fun e w' => e = .returned (.tuple #[.int .i64 (d.len i : Nat), .int .i64 0]) ∧ ∃ n, w' = w.drewN n) at L
  generalize d.len i = m at *
  have h1 : ¬ n < 0 := by omega
  have h2 : ¬ (m : Int) < n := by omega
  go_enter Try.func43, Try.ntmps43
  go_wp2_with fail
  refine R.mono ?_; rintro e w' ⟨rfl, rfl⟩
  go_wp2_with fail
  refine L.mono ?_; rintro e w' ⟨rfl, nq, rfl⟩
  go_wp2_with fail
  have U := use_any b d _ ((Turn.refl h).drewN nq).is hf.2.2.2.2.1
  rw [show useN d = 13 by unfold useN; rw [if_pos h0]] at U
  refine U.mono ?_; rintro e w1 ⟨rfl, T⟩
  go_wp2
  go_ret
  exact ⟨rfl, ((Turn.refl h).drewN nq).trans T⟩
theorem Turn.alloc {b : Nat} {d : Dk} {w w' : World} (h : Turn b d w w') (o : Obj) : Turn b d w (w'.alloc o) := by
  have hb := lt_of_block h.is
  refine ⟨?_, fun c hl hc => ?_, by have := h.size; simp; omega, fun B hB => (h.below B hB).alloc (by omega) _⟩
  · unfold Is; rw [Below.heap_alloc _ _ _ hb]; exact h.is
  · rw [Below.heap_alloc _ _ _ (by have := h.size; omega)]; exact h.others c hl hc
theorem Turn.other {b : Nat} {d : Dk} {w w' : World} (h : Turn b d w w') {a : Addr} (h1 : w.heap.size ≤ a.block) (h2 : a.block ≠ b) (v : Value) (hb : b < w.heap.size) : Turn b d w (w'.setCell a v) := by
  refine ⟨?_, fun c hl hc => ?_, by have := h.size; simpa using this, fun B hB => (h.below B hB).setCell (by omega) _⟩
  · unfold Is; rw [Below.heap_setCell _ _ _ _ (fun e => h2 e.symm)]; exact h.is
  · rw [Below.heap_setCell _ _ _ _ (by omega)]; exact h.others c hl hc
set_option maxRecDepth 100000 in
theorem Cut_safe (b : Nat) (d : Dk) (i n : Int) (w : World) (h : Is b d w) (hf : d.Fits) (hr : rdy d i = 0) (hn : 0 ≤ n) (hn2 : n ≤ d.len i) (h0 : ¬ d.left = 0) (hs : n ≤ (d.s i).size) : Calls Try.prog 43 #[.pointer (some ⟨b, 0, none⟩), .int .i64 i, .int .i64 n] w fun e w' => e = .returned (.int .i64 0) ∧ Turn b (((useD d).setS i ((d.s i).extract 0 n.toNat)).setL i ⟨#[]⟩) w w' := by
  have R := ready_any b d i w h
  rw [hr] at R
  have L := Len_ok b d i w h hf hr
  change Calls _ _ _ _ (fun e w' => e = .returned (.tuple #[.int .i64 (d.len i : Nat), .int .i64 0]) ∧ ∃ n, w' = w.drewN n) at L
  generalize d.len i = m at *
  have h1 : ¬ n < 0 := by omega
  have h2 : ¬ (m : Int) < n := by omega
  rw [← useD_s] at hs ⊢
  have U : ∀ nq, _ := fun nq => use_any b d _ ((Turn.refl h).drewN nq).is hf.2.2.2.2.1
  rw [show useN d = 0 by unfold useN; rw [if_neg h0]] at U
  generalize useD d = d' at *
  obtain ⟨_, _, rfl | rfl | rfl | rfl⟩ := rdy_file hr
  · change n ≤ d'.s0.size at hs
    go_enter Try.func43, Try.ntmps43
    go_wp2_with fail
    refine R.mono ?_; rintro e w' ⟨rfl, rfl⟩
    go_wp2_with fail
    refine L.mono ?_; rintro e w' ⟨rfl, nq, rfl⟩
    go_wp2_with fail
    refine (U nq).mono ?_; rintro e w1 ⟨rfl, T⟩
    have T1 := ((Turn.refl h).drewN nq).trans T
    have c := T.is.c0
    have c2 := T.is.c1
    clear T U L R
    go_wp2_with fail
    clear c c2
    have T2 := T1.alloc (Obj.cells #[Value.string d'.s0, Value.string d'.l0] 80)
    have n0 : (w1.alloc (Obj.cells #[Value.string d'.s0, Value.string d'.l0] 80)).cell? ⟨w1.heap.size, 0, none⟩ = some (.string d'.s0) := by simp
    have n1 : (w1.alloc (Obj.cells #[Value.string d'.s0, Value.string d'.l0] 80)).cell? ⟨w1.heap.size, 1, none⟩ = some (.string d'.l0) := by simp
    generalize w1.alloc (Obj.cells #[Value.string d'.s0, Value.string d'.l0] 80) = w2 at *
    have c := T2.is.c0
    have c2 := T2.is.c1
    have f := T2.is.f0
    have f2 := T2.is.f1
    have r := T2.is.p0 (d'.s0.extract 0 n.toNat)
    have f3 := r.f1
    have c3 := r.c1
    have r2 := r.p1 ⟨#[]⟩
    go_region
    all_goals (go_wp2; go_ret; exact ⟨rfl, by first | exact (T2.put r).put r2 | exact ((T2.put r).put r2).drew | exact ((T2.put r).put r2).drewN _⟩)
  · change n ≤ d'.s1.size at hs
    go_enter Try.func43, Try.ntmps43
    go_wp2_with fail
    refine R.mono ?_; rintro e w' ⟨rfl, rfl⟩
    go_wp2_with fail
    refine L.mono ?_; rintro e w' ⟨rfl, nq, rfl⟩
    go_wp2_with fail
    refine (U nq).mono ?_; rintro e w1 ⟨rfl, T⟩
    have T1 := ((Turn.refl h).drewN nq).trans T
    have c := T.is.c2
    have c2 := T.is.c3
    clear T U L R
    go_wp2_with fail
    clear c c2
    have T2 := T1.alloc (Obj.cells #[Value.string d'.s1, Value.string d'.l1] 80)
    have n0 : (w1.alloc (Obj.cells #[Value.string d'.s1, Value.string d'.l1] 80)).cell? ⟨w1.heap.size, 0, none⟩ = some (.string d'.s1) := by simp
    have n1 : (w1.alloc (Obj.cells #[Value.string d'.s1, Value.string d'.l1] 80)).cell? ⟨w1.heap.size, 1, none⟩ = some (.string d'.l1) := by simp
    generalize w1.alloc (Obj.cells #[Value.string d'.s1, Value.string d'.l1] 80) = w2 at *
    have c := T2.is.c2
    have c2 := T2.is.c3
    have f := T2.is.f2
    have f2 := T2.is.f3
    have r := T2.is.p2 (d'.s1.extract 0 n.toNat)
    have f3 := r.f3
    have c3 := r.c3
    have r2 := r.p3 ⟨#[]⟩
    go_region
    all_goals (go_wp2; go_ret; exact ⟨rfl, by first | exact (T2.put r).put r2 | exact ((T2.put r).put r2).drew | exact ((T2.put r).put r2).drewN _⟩)
  · change n ≤ d'.s2.size at hs
    go_enter Try.func43, Try.ntmps43
    go_wp2_with fail
    refine R.mono ?_; rintro e w' ⟨rfl, rfl⟩
    go_wp2_with fail
    refine L.mono ?_; rintro e w' ⟨rfl, nq, rfl⟩
    go_wp2_with fail
    refine (U nq).mono ?_; rintro e w1 ⟨rfl, T⟩
    have T1 := ((Turn.refl h).drewN nq).trans T
    have c := T.is.c4
    have c2 := T.is.c5
    clear T U L R
    go_wp2_with fail
    clear c c2
    have T2 := T1.alloc (Obj.cells #[Value.string d'.s2, Value.string d'.l2] 80)
    have n0 : (w1.alloc (Obj.cells #[Value.string d'.s2, Value.string d'.l2] 80)).cell? ⟨w1.heap.size, 0, none⟩ = some (.string d'.s2) := by simp
    have n1 : (w1.alloc (Obj.cells #[Value.string d'.s2, Value.string d'.l2] 80)).cell? ⟨w1.heap.size, 1, none⟩ = some (.string d'.l2) := by simp
    generalize w1.alloc (Obj.cells #[Value.string d'.s2, Value.string d'.l2] 80) = w2 at *
    have c := T2.is.c4
    have c2 := T2.is.c5
    have f := T2.is.f4
    have f2 := T2.is.f5
    have r := T2.is.p4 (d'.s2.extract 0 n.toNat)
    have f3 := r.f5
    have c3 := r.c5
    have r2 := r.p5 ⟨#[]⟩
    go_region
    all_goals (go_wp2; go_ret; exact ⟨rfl, by first | exact (T2.put r).put r2 | exact ((T2.put r).put r2).drew | exact ((T2.put r).put r2).drewN _⟩)
  · change n ≤ d'.s3.size at hs
    go_enter Try.func43, Try.ntmps43
    go_wp2_with fail
    refine R.mono ?_; rintro e w' ⟨rfl, rfl⟩
    go_wp2_with fail
    refine L.mono ?_; rintro e w' ⟨rfl, nq, rfl⟩
    go_wp2_with fail
    refine (U nq).mono ?_; rintro e w1 ⟨rfl, T⟩
    have T1 := ((Turn.refl h).drewN nq).trans T
    have c := T.is.c6
    have c2 := T.is.c7
    clear T U L R
    go_wp2_with fail
    clear c c2
    have T2 := T1.alloc (Obj.cells #[Value.string d'.s3, Value.string d'.l3] 80)
    have n0 : (w1.alloc (Obj.cells #[Value.string d'.s3, Value.string d'.l3] 80)).cell? ⟨w1.heap.size, 0, none⟩ = some (.string d'.s3) := by simp
    have n1 : (w1.alloc (Obj.cells #[Value.string d'.s3, Value.string d'.l3] 80)).cell? ⟨w1.heap.size, 1, none⟩ = some (.string d'.l3) := by simp
    generalize w1.alloc (Obj.cells #[Value.string d'.s3, Value.string d'.l3] 80) = w2 at *
    have c := T2.is.c6
    have c2 := T2.is.c7
    have f := T2.is.f6
    have f2 := T2.is.f7
    have r := T2.is.p6 (d'.s3.extract 0 n.toNat)
    have f3 := r.f7
    have c3 := r.c7
    have r2 := r.p7 ⟨#[]⟩
    go_region
    all_goals (go_wp2; go_ret; exact ⟨rfl, by first | exact (T2.put r).put r2 | exact ((T2.put r).put r2).drew | exact ((T2.put r).put r2).drewN _⟩)

set_option maxRecDepth 100000 in
theorem Cut_late (b : Nat) (d : Dk) (i n : Int) (w : World) (h : Is b d w) (hf : d.Fits) (hr : rdy d i = 0) (hn2 : n ≤ d.len i) (h0 : ¬ d.left = 0) (hs : ((d.s i).size : Int) < n) : Calls Try.prog 43 #[.pointer (some ⟨b, 0, none⟩), .int .i64 i, .int .i64 n] w fun e w' => e = .returned (.int .i64 0) ∧ Turn b ((useD d).setL i ((d.l i).extract 0 (n.toNat - (d.s i).size))) w w' := by
  have R := ready_any b d i w h
  rw [hr] at R
  have L := Len_ok b d i w h hf hr
  change Calls _ _ _ _ (fun e w' => e = .returned (.tuple #[.int .i64 (d.len i : Nat), .int .i64 0]) ∧ ∃ n, w' = w.drewN n) at L
  have h5 : n ≤ ((d.s i).size : Int) + ((d.l i).size : Int) := by unfold Dk.len at hn2; push_cast at hn2; exact hn2
  have hm := len_max hf i
  generalize d.len i = m at *
  have h1 : ¬ n < 0 := by omega
  have h2 : ¬ (m : Int) < n := by omega
  rw [← useD_l]
  rw [← useD_s] at hs h5 ⊢
  rw [← useD_l] at h5
  have U : ∀ nq, _ := fun nq => use_any b d _ ((Turn.refl h).drewN nq).is hf.2.2.2.2.1
  rw [show useN d = 0 by unfold useN; rw [if_neg h0]] at U
  generalize useD d = d' at *
  obtain ⟨_, _, rfl | rfl | rfl | rfl⟩ := rdy_file hr
  · change (d'.s0.size : Int) < n at hs
    change n ≤ (d'.s0.size : Int) + (d'.l0.size : Int) at h5
    have h6 : ¬ n ≤ (d'.s0.size : Int) := by omega
    have h7 : 0 ≤ n - (d'.s0.size : Int) := by omega
    have h8 : n - (d'.s0.size : Int) ≤ (d'.l0.size : Int) := by omega
    show Calls Try.prog 43 _ w fun e w' => e = .returned (.int .i64 0) ∧ Turn b (d'.setL 0 (d'.l0.extract 0 (n.toNat - d'.s0.size))) w w'
    go_enter Try.func43, Try.ntmps43
    go_wp2_with fail
    refine R.mono ?_; rintro e w' ⟨rfl, rfl⟩
    go_wp2_with fail
    refine L.mono ?_; rintro e w' ⟨rfl, nq, rfl⟩
    go_wp2_with fail
    refine (U nq).mono ?_; rintro e w1 ⟨rfl, T⟩
    have T1 := ((Turn.refl h).drewN nq).trans T
    have c := T.is.c0
    have c2 := T.is.c1
    clear T U L R
    go_wp2_with fail
    clear c c2
    have T2 := T1.alloc (Obj.cells #[Value.string d'.s0, Value.string d'.l0] 80)
    have n0 : (w1.alloc (Obj.cells #[Value.string d'.s0, Value.string d'.l0] 80)).cell? ⟨w1.heap.size, 0, none⟩ = some (.string d'.s0) := by simp
    have n1 : (w1.alloc (Obj.cells #[Value.string d'.s0, Value.string d'.l0] 80)).cell? ⟨w1.heap.size, 1, none⟩ = some (.string d'.l0) := by simp
    generalize w1.alloc (Obj.cells #[Value.string d'.s0, Value.string d'.l0] 80) = w2 at *
    have c2 := T2.is.c1
    have f2 := T2.is.f1
    have r2 := T2.is.p1 (d'.l0.extract 0 (n.toNat - d'.s0.size))
    go_region
    all_goals (go_wp2; go_ret; exact ⟨rfl, by first | exact (T2.put r2) | exact (T2.put r2).drew | exact (T2.put r2).drewN _⟩)
  · change (d'.s1.size : Int) < n at hs
    change n ≤ (d'.s1.size : Int) + (d'.l1.size : Int) at h5
    have h6 : ¬ n ≤ (d'.s1.size : Int) := by omega
    have h7 : 0 ≤ n - (d'.s1.size : Int) := by omega
    have h8 : n - (d'.s1.size : Int) ≤ (d'.l1.size : Int) := by omega
    show Calls Try.prog 43 _ w fun e w' => e = .returned (.int .i64 0) ∧ Turn b (d'.setL 1 (d'.l1.extract 0 (n.toNat - d'.s1.size))) w w'
    go_enter Try.func43, Try.ntmps43
    go_wp2_with fail
    refine R.mono ?_; rintro e w' ⟨rfl, rfl⟩
    go_wp2_with fail
    refine L.mono ?_; rintro e w' ⟨rfl, nq, rfl⟩
    go_wp2_with fail
    refine (U nq).mono ?_; rintro e w1 ⟨rfl, T⟩
    have T1 := ((Turn.refl h).drewN nq).trans T
    have c := T.is.c2
    have c2 := T.is.c3
    clear T U L R
    go_wp2_with fail
    clear c c2
    have T2 := T1.alloc (Obj.cells #[Value.string d'.s1, Value.string d'.l1] 80)
    have n0 : (w1.alloc (Obj.cells #[Value.string d'.s1, Value.string d'.l1] 80)).cell? ⟨w1.heap.size, 0, none⟩ = some (.string d'.s1) := by simp
    have n1 : (w1.alloc (Obj.cells #[Value.string d'.s1, Value.string d'.l1] 80)).cell? ⟨w1.heap.size, 1, none⟩ = some (.string d'.l1) := by simp
    generalize w1.alloc (Obj.cells #[Value.string d'.s1, Value.string d'.l1] 80) = w2 at *
    have c2 := T2.is.c3
    have f2 := T2.is.f3
    have r2 := T2.is.p3 (d'.l1.extract 0 (n.toNat - d'.s1.size))
    go_region
    all_goals (go_wp2; go_ret; exact ⟨rfl, by first | exact (T2.put r2) | exact (T2.put r2).drew | exact (T2.put r2).drewN _⟩)
  · change (d'.s2.size : Int) < n at hs
    change n ≤ (d'.s2.size : Int) + (d'.l2.size : Int) at h5
    have h6 : ¬ n ≤ (d'.s2.size : Int) := by omega
    have h7 : 0 ≤ n - (d'.s2.size : Int) := by omega
    have h8 : n - (d'.s2.size : Int) ≤ (d'.l2.size : Int) := by omega
    show Calls Try.prog 43 _ w fun e w' => e = .returned (.int .i64 0) ∧ Turn b (d'.setL 2 (d'.l2.extract 0 (n.toNat - d'.s2.size))) w w'
    go_enter Try.func43, Try.ntmps43
    go_wp2_with fail
    refine R.mono ?_; rintro e w' ⟨rfl, rfl⟩
    go_wp2_with fail
    refine L.mono ?_; rintro e w' ⟨rfl, nq, rfl⟩
    go_wp2_with fail
    refine (U nq).mono ?_; rintro e w1 ⟨rfl, T⟩
    have T1 := ((Turn.refl h).drewN nq).trans T
    have c := T.is.c4
    have c2 := T.is.c5
    clear T U L R
    go_wp2_with fail
    clear c c2
    have T2 := T1.alloc (Obj.cells #[Value.string d'.s2, Value.string d'.l2] 80)
    have n0 : (w1.alloc (Obj.cells #[Value.string d'.s2, Value.string d'.l2] 80)).cell? ⟨w1.heap.size, 0, none⟩ = some (.string d'.s2) := by simp
    have n1 : (w1.alloc (Obj.cells #[Value.string d'.s2, Value.string d'.l2] 80)).cell? ⟨w1.heap.size, 1, none⟩ = some (.string d'.l2) := by simp
    generalize w1.alloc (Obj.cells #[Value.string d'.s2, Value.string d'.l2] 80) = w2 at *
    have c2 := T2.is.c5
    have f2 := T2.is.f5
    have r2 := T2.is.p5 (d'.l2.extract 0 (n.toNat - d'.s2.size))
    go_region
    all_goals (go_wp2; go_ret; exact ⟨rfl, by first | exact (T2.put r2) | exact (T2.put r2).drew | exact (T2.put r2).drewN _⟩)
  · change (d'.s3.size : Int) < n at hs
    change n ≤ (d'.s3.size : Int) + (d'.l3.size : Int) at h5
    have h6 : ¬ n ≤ (d'.s3.size : Int) := by omega
    have h7 : 0 ≤ n - (d'.s3.size : Int) := by omega
    have h8 : n - (d'.s3.size : Int) ≤ (d'.l3.size : Int) := by omega
    show Calls Try.prog 43 _ w fun e w' => e = .returned (.int .i64 0) ∧ Turn b (d'.setL 3 (d'.l3.extract 0 (n.toNat - d'.s3.size))) w w'
    go_enter Try.func43, Try.ntmps43
    go_wp2_with fail
    refine R.mono ?_; rintro e w' ⟨rfl, rfl⟩
    go_wp2_with fail
    refine L.mono ?_; rintro e w' ⟨rfl, nq, rfl⟩
    go_wp2_with fail
    refine (U nq).mono ?_; rintro e w1 ⟨rfl, T⟩
    have T1 := ((Turn.refl h).drewN nq).trans T
    have c := T.is.c6
    have c2 := T.is.c7
    clear T U L R
    go_wp2_with fail
    clear c c2
    have T2 := T1.alloc (Obj.cells #[Value.string d'.s3, Value.string d'.l3] 80)
    have n0 : (w1.alloc (Obj.cells #[Value.string d'.s3, Value.string d'.l3] 80)).cell? ⟨w1.heap.size, 0, none⟩ = some (.string d'.s3) := by simp
    have n1 : (w1.alloc (Obj.cells #[Value.string d'.s3, Value.string d'.l3] 80)).cell? ⟨w1.heap.size, 1, none⟩ = some (.string d'.l3) := by simp
    generalize w1.alloc (Obj.cells #[Value.string d'.s3, Value.string d'.l3] 80) = w2 at *
    have c2 := T2.is.c7
    have f2 := T2.is.f7
    have r2 := T2.is.p7 (d'.l3.extract 0 (n.toNat - d'.s3.size))
    go_region
    all_goals (go_wp2; go_ret; exact ⟨rfl, by first | exact (T2.put r2) | exact (T2.put r2).drew | exact (T2.put r2).drewN _⟩)

end Go.Proofs.Ytejfdiiennnjjaa.D
namespace Go.Proofs.Ytejfdiiennnjjaa.D
open Go.RowKit Go.Proofs Go.Proofs.Ytejfdiiennnjjaa Go.Proofs.YtejfdiiennnjjaaW.PrintMore
attribute [local go_sem] max2_int min2_int max_two min_two
set_option linter.unusedVariables false

set_option maxRecDepth 100000 in
theorem Crash_nil (k0 k1 k2 k3 : Int) (w : World) : Calls Try.prog 37 #[.pointer none, .agg #[.int .i64 k0, .int .i64 k1, .int .i64 k2, .int .i64 k3]] w fun e w' => e = .returned (.tuple #[]) ∧ w.heap.size ≤ w'.heap.size ∧ (∀ c, c < w.heap.size → w'.heap[c]? = w.heap[c]?) ∧ ∀ B, B ≤ w.heap.size → Below B w w' := by
  go_enter Try.func37, Try.ntmps37
  go_wp2
  refine bodyPost_ret (results_none rfl _ _ _) rfl ?_
  exact ⟨rfl, by simp, fun c hc => Below.heap_alloc _ _ _ hc, fun B hB => (Below.refl _ _).alloc hB _⟩
/-- How much of what is late is kept. -/
def kept (k : Int) (l : ByteArray) : Nat := min k.toNat l.size
def keep1 (s l : ByteArray) (k : Int) : ByteArray := s ++ l.extract 0 (kept k l)
def crash (d : Dk) (k0 k1 k2 k3 : Int) : Dk := ⟨keep1 d.s0 d.l0 k0, ⟨#[]⟩, keep1 d.s1 d.l1 k1, ⟨#[]⟩, keep1 d.s2 d.l2 k2, ⟨#[]⟩, keep1 d.s3 d.l3 k3, ⟨#[]⟩, -1, false, d.made⟩
/-- Behind so many rounds. -/
def part (d : Dk) (k0 k1 k2 k3 : Int) : Nat → Dk
  | 0 => d
  | 1 => { d with s0 := keep1 d.s0 d.l0 k0, l0 := ⟨#[]⟩ }
  | 2 => { d with s0 := keep1 d.s0 d.l0 k0, l0 := ⟨#[]⟩, s1 := keep1 d.s1 d.l1 k1, l1 := ⟨#[]⟩ }
  | 3 => { d with s0 := keep1 d.s0 d.l0 k0, l0 := ⟨#[]⟩, s1 := keep1 d.s1 d.l1 k1, l1 := ⟨#[]⟩, s2 := keep1 d.s2 d.l2 k2, l2 := ⟨#[]⟩ }
  | _ => { d with s0 := keep1 d.s0 d.l0 k0, l0 := ⟨#[]⟩, s1 := keep1 d.s1 d.l1 k1, l1 := ⟨#[]⟩, s2 := keep1 d.s2 d.l2 k2, l2 := ⟨#[]⟩, s3 := keep1 d.s3 d.l3 k3, l3 := ⟨#[]⟩ }
set_option maxRecDepth 100000 in
theorem Crash_unmade (b : Nat) (d : Dk) (k0 k1 k2 k3 : Int) (w : World) (h : Is b d w) (hm : d.made = false) : Calls Try.prog 37 #[.pointer (some ⟨b, 0, none⟩), .agg #[.int .i64 k0, .int .i64 k1, .int .i64 k2, .int .i64 k3]] w fun e w' => e = .returned (.tuple #[]) ∧ Turn b d w w' := by
  have T := (Turn.refl h).alloc (Obj.cells #[.int .i64 k0, .int .i64 k1, .int .i64 k2, .int .i64 k3] 59)
  have c10 := T.is.c10
  rw [hm] at c10
  go_enter Try.func37, Try.ntmps37
  go_wp2
  refine bodyPost_ret (results_none rfl _ _ _) rfl ?_
  exact ⟨rfl, T⟩
theorem idx0 (a b c d e f g h : ByteArray) (w : World) : Sem.run Try.prog (Instr.index 81 (Value.agg #[.string a, .string b, .string c, .string d, .string e, .string f, .string g, .string h]) (.int .i64 0)) w = .ok (.agg #[.string a, .string b]) w := by kernel_rfl
theorem idx1 (a b c d e f g h : ByteArray) (w : World) : Sem.run Try.prog (Instr.index 81 (Value.agg #[.string a, .string b, .string c, .string d, .string e, .string f, .string g, .string h]) (.int .i64 1)) w = .ok (.agg #[.string c, .string d]) w := by kernel_rfl
theorem idx2 (a b c d e f g h : ByteArray) (w : World) : Sem.run Try.prog (Instr.index 81 (Value.agg #[.string a, .string b, .string c, .string d, .string e, .string f, .string g, .string h]) (.int .i64 2)) w = .ok (.agg #[.string e, .string f]) w := by kernel_rfl
theorem idx3 (a b c d e f g h : ByteArray) (w : World) : Sem.run Try.prog (Instr.index 81 (Value.agg #[.string a, .string b, .string c, .string d, .string e, .string f, .string g, .string h]) (.int .i64 3)) w = .ok (.agg #[.string g, .string h]) w := by kernel_rfl
theorem new_pair (w : World) (x y : Value) (t : Nat) : (w.alloc (Obj.cells #[x, y] t)).cell? ⟨w.heap.size, 0, none⟩ = some x ∧ (w.alloc (Obj.cells #[x, y] t)).cell? ⟨w.heap.size, 1, none⟩ = some y := by
  constructor <;> simp
theorem heap2 (w : World) {b c : Nat} (hc : c ≠ b) (o1 o2 : Nat) (v1 v2 : Value) : ((w.setCell ⟨b, o1, none⟩ v1).setCell ⟨b, o2, none⟩ v2).heap[c]? = w.heap[c]? :=
  (Below.heap_setCell _ ⟨b, o2, none⟩ _ _ hc).trans (Below.heap_setCell _ ⟨b, o1, none⟩ _ _ hc)
theorem len_fits (l : ByteArray) (k : Int) (hl : (l.size : Int) ≤ 1048576) : kept k l ≤ 1048576 ∧ (kept k l : Int) ≤ l.size ∧ kept k l ≤ l.size := by unfold kept; omega
theorem kept_min (k : Int) (l : ByteArray) : (if (0 : Int) < (if (l.size : Int) < k then (l.size : Int) else k) then (if (l.size : Int) < k then (l.size : Int) else k) else 0) = (kept k l : Int) := by
  unfold kept; split <;> split at * <;> omega
set_option maxRecDepth 100000 in
set_option maxHeartbeats 4000000 in
theorem Crash_made (b : Nat) (d : Dk) (k0 k1 k2 k3 : Int) (w : World) (h : Is b d w) (hf : d.Fits) (hm : d.made = true) : Calls Try.prog 37 #[.pointer (some ⟨b, 0, none⟩), .agg #[.int .i64 k0, .int .i64 k1, .int .i64 k2, .int .i64 k3]] w fun e w' => e = .returned (.tuple #[]) ∧ Turn b (crash d k0 k1 k2 k3) w w' := by
  have hlt := lt_of_block h
  have hne : w.heap.size ≠ b := by omega
  have T := (Turn.refl h).alloc (Obj.cells #[.int .i64 k0, .int .i64 k1, .int .i64 k2, .int .i64 k3] 59)
  have c0 := T.is.c0
  have c1 := T.is.c1
  have c2 := T.is.c2
  have c3 := T.is.c3
  have c4 := T.is.c4
  have c5 := T.is.c5
  have c6 := T.is.c6
  have c7 := T.is.c7
  have c10 := T.is.c10
  rw [hm] at c10
  obtain ⟨g0, g1, g2, g3, _, _⟩ := hf
  go_enter Try.func37, Try.ntmps37
  go_wp2
  clear c0 c1 c2 c3 c4 c5 c6 c7 c10
  go_loopw [20] (fun i wr => ∃ n : Int, 0 ≤ n ∧ n ≤ 4 ∧ i = .int .i64 n ∧ Turn b (part d k0 k1 k2 k3 n.toNat) w wr ∧ wr.heap[w.heap.size]? = some (.cells #[.int .i64 k0, .int .i64 k1, .int .i64 k2, .int .i64 k3] 59 (0, 0))) (fun i _ => (4 - intOf i).toNat)
  case atStart =>
    exact ⟨0, by omega, by omega, rfl, T, heap_alloc_new _ _⟩
  case round =>
    obtain ⟨n, hn0, hn4, rfl, T, hK⟩ := hrel
    have kc0 : wr.cell? ⟨w.heap.size, 0, none⟩ = some (.int .i64 k0) := by simp [World.cell?, hK]
    have kc1 : wr.cell? ⟨w.heap.size, 1, none⟩ = some (.int .i64 k1) := by simp [World.cell?, hK]
    have kc2 : wr.cell? ⟨w.heap.size, 2, none⟩ = some (.int .i64 k2) := by simp [World.cell?, hK]
    have kc3 : wr.cell? ⟨w.heap.size, 3, none⟩ = some (.int .i64 k3) := by simp [World.cell?, hK]
    have hKl := lt_of_block hK
    obtain rfl | rfl | rfl | rfl | rfl : n = 0 ∨ n = 1 ∨ n = 2 ∨ n = 3 ∨ n = 4 := by omega
    · obtain ⟨z1, z2, z3⟩ := len_fits d.l0 k0 (by omega)
      have zk := kept_min k0 d.l0
      have zs : ¬ 9223372036854775807 < d.s0.size + kept k0 d.l0 := by omega
      replace T : Turn b (part d k0 k1 k2 k3 0) w wr := T
      go_wp2_with fail
      rw [idx0]
      simp only [Result.andThen]
      rw [Oper.upon_value]
      go_wp2_with fail
      obtain ⟨n0, n1⟩ := new_pair wr (.string d.s0) (.string d.l0) 80
      have T2 := T.alloc (Obj.cells #[.string d.s0, .string d.l0] 80)
      have hK2 := (Below.heap_alloc wr (Obj.cells #[.string d.s0, .string d.l0] 80) _ hKl).trans hK
      clear kc0 kc1 kc2 kc3
      generalize wr.alloc (Obj.cells #[.string d.s0, .string d.l0] 80) = w2 at *
      have kc : w2.cell? ⟨w.heap.size, 0, none⟩ = some (.int .i64 k0) := by simp [World.cell?, hK2]
      have c := T2.is.c0
      have c2 := T2.is.c1
      have f := T2.is.f0
      have f2 := T2.is.f1
      have r := T2.is.p0 (keep1 d.s0 d.l0 k0)
      have f3 := r.f1
      have c3 := r.c1
      have r2 := r.p1 ⟨#[]⟩
      have T3 : Turn b (part d k0 k1 k2 k3 1) w ((w2.setCell ⟨b, 0, none⟩ (.string (d.s0 ++ d.l0.extract 0 (kept k0 d.l0)))).setCell ⟨b, 1, none⟩ (.string ⟨#[]⟩)) := (T2.put r).put r2
      replace f3 : (w2.setCell ⟨b, 0, none⟩ (.string (d.s0 ++ d.l0.extract 0 (kept k0 d.l0)))).frozen? ⟨b, 1, none⟩ = false := f3
      replace c3 : (w2.setCell ⟨b, 0, none⟩ (.string (d.s0 ++ d.l0.extract 0 (kept k0 d.l0)))).cell? ⟨b, 1, none⟩ = some (.string d.l0) := c3
      clear T hK r r2
      go_quiet (fail)
      generalize (if (d.l0.size : Int) < k0 then (d.l0.size : Int) else k0) = mm
      go_wp2_with fail
      go_region
      all_goals (go_wp2; go_roundw)
      all_goals first
        | exact ⟨1, by omega, by omega, rfl, T3.drewN (nq + 1), (heap2 (w2.drewN (nq + 1)) hne _ _ _ _).trans hK2⟩
        | (simp [intOf]; done)
        | (simp [intOf]; omega)
    · obtain ⟨z1, z2, z3⟩ := len_fits d.l1 k1 (by omega)
      have zk := kept_min k1 d.l1
      have zs : ¬ 9223372036854775807 < d.s1.size + kept k1 d.l1 := by omega
      replace T : Turn b (part d k0 k1 k2 k3 1) w wr := T
      go_wp2_with fail
      rw [idx1]
      simp only [Result.andThen]
      rw [Oper.upon_value]
      go_wp2_with fail
      obtain ⟨n0, n1⟩ := new_pair wr (.string d.s1) (.string d.l1) 80
      have T2 := T.alloc (Obj.cells #[.string d.s1, .string d.l1] 80)
      have hK2 := (Below.heap_alloc wr (Obj.cells #[.string d.s1, .string d.l1] 80) _ hKl).trans hK
      clear kc0 kc1 kc2 kc3
      generalize wr.alloc (Obj.cells #[.string d.s1, .string d.l1] 80) = w2 at *
      have kc : w2.cell? ⟨w.heap.size, 1, none⟩ = some (.int .i64 k1) := by simp [World.cell?, hK2]
      have c := T2.is.c2
      have c2 := T2.is.c3
      have f := T2.is.f2
      have f2 := T2.is.f3
      have r := T2.is.p2 (keep1 d.s1 d.l1 k1)
      have f3 := r.f3
      have c3 := r.c3
      have r2 := r.p3 ⟨#[]⟩
      have T3 : Turn b (part d k0 k1 k2 k3 2) w ((w2.setCell ⟨b, 2, none⟩ (.string (d.s1 ++ d.l1.extract 0 (kept k1 d.l1)))).setCell ⟨b, 3, none⟩ (.string ⟨#[]⟩)) := (T2.put r).put r2
      replace f3 : (w2.setCell ⟨b, 2, none⟩ (.string (d.s1 ++ d.l1.extract 0 (kept k1 d.l1)))).frozen? ⟨b, 3, none⟩ = false := f3
      replace c3 : (w2.setCell ⟨b, 2, none⟩ (.string (d.s1 ++ d.l1.extract 0 (kept k1 d.l1)))).cell? ⟨b, 3, none⟩ = some (.string d.l1) := c3
      clear T hK r r2
      go_quiet (fail)
      generalize (if (d.l1.size : Int) < k1 then (d.l1.size : Int) else k1) = mm
      go_wp2_with fail
      go_region
      all_goals (go_wp2; go_roundw)
      all_goals first
        | exact ⟨2, by omega, by omega, rfl, T3.drewN (nq + 1), (heap2 (w2.drewN (nq + 1)) hne _ _ _ _).trans hK2⟩
        | (simp [intOf]; done)
        | (simp [intOf]; omega)
    · obtain ⟨z1, z2, z3⟩ := len_fits d.l2 k2 (by omega)
      have zk := kept_min k2 d.l2
      have zs : ¬ 9223372036854775807 < d.s2.size + kept k2 d.l2 := by omega
      replace T : Turn b (part d k0 k1 k2 k3 2) w wr := T
      go_wp2_with fail
      rw [idx2]
      simp only [Result.andThen]
      rw [Oper.upon_value]
      go_wp2_with fail
      obtain ⟨n0, n1⟩ := new_pair wr (.string d.s2) (.string d.l2) 80
      have T2 := T.alloc (Obj.cells #[.string d.s2, .string d.l2] 80)
      have hK2 := (Below.heap_alloc wr (Obj.cells #[.string d.s2, .string d.l2] 80) _ hKl).trans hK
      clear kc0 kc1 kc2 kc3
      generalize wr.alloc (Obj.cells #[.string d.s2, .string d.l2] 80) = w2 at *
      have kc : w2.cell? ⟨w.heap.size, 2, none⟩ = some (.int .i64 k2) := by simp [World.cell?, hK2]
      have c := T2.is.c4
      have c2 := T2.is.c5
      have f := T2.is.f4
      have f2 := T2.is.f5
      have r := T2.is.p4 (keep1 d.s2 d.l2 k2)
      have f3 := r.f5
      have c3 := r.c5
      have r2 := r.p5 ⟨#[]⟩
      have T3 : Turn b (part d k0 k1 k2 k3 3) w ((w2.setCell ⟨b, 4, none⟩ (.string (d.s2 ++ d.l2.extract 0 (kept k2 d.l2)))).setCell ⟨b, 5, none⟩ (.string ⟨#[]⟩)) := (T2.put r).put r2
      replace f3 : (w2.setCell ⟨b, 4, none⟩ (.string (d.s2 ++ d.l2.extract 0 (kept k2 d.l2)))).frozen? ⟨b, 5, none⟩ = false := f3
      replace c3 : (w2.setCell ⟨b, 4, none⟩ (.string (d.s2 ++ d.l2.extract 0 (kept k2 d.l2)))).cell? ⟨b, 5, none⟩ = some (.string d.l2) := c3
      clear T hK r r2
      go_quiet (fail)
      generalize (if (d.l2.size : Int) < k2 then (d.l2.size : Int) else k2) = mm
      go_wp2_with fail
      go_region
      all_goals (go_wp2; go_roundw)
      all_goals first
        | exact ⟨3, by omega, by omega, rfl, T3.drewN (nq + 1), (heap2 (w2.drewN (nq + 1)) hne _ _ _ _).trans hK2⟩
        | (simp [intOf]; done)
        | (simp [intOf]; omega)
    · obtain ⟨z1, z2, z3⟩ := len_fits d.l3 k3 (by omega)
      have zk := kept_min k3 d.l3
      have zs : ¬ 9223372036854775807 < d.s3.size + kept k3 d.l3 := by omega
      replace T : Turn b (part d k0 k1 k2 k3 3) w wr := T
      go_wp2_with fail
      rw [idx3]
      simp only [Result.andThen]
      rw [Oper.upon_value]
      go_wp2_with fail
      obtain ⟨n0, n1⟩ := new_pair wr (.string d.s3) (.string d.l3) 80
      have T2 := T.alloc (Obj.cells #[.string d.s3, .string d.l3] 80)
      have hK2 := (Below.heap_alloc wr (Obj.cells #[.string d.s3, .string d.l3] 80) _ hKl).trans hK
      clear kc0 kc1 kc2 kc3
      generalize wr.alloc (Obj.cells #[.string d.s3, .string d.l3] 80) = w2 at *
      have kc : w2.cell? ⟨w.heap.size, 3, none⟩ = some (.int .i64 k3) := by simp [World.cell?, hK2]
      have c := T2.is.c6
      have c2 := T2.is.c7
      have f := T2.is.f6
      have f2 := T2.is.f7
      have r := T2.is.p6 (keep1 d.s3 d.l3 k3)
      have f3 := r.f7
      have c3 := r.c7
      have r2 := r.p7 ⟨#[]⟩
      have T3 : Turn b (part d k0 k1 k2 k3 4) w ((w2.setCell ⟨b, 6, none⟩ (.string (d.s3 ++ d.l3.extract 0 (kept k3 d.l3)))).setCell ⟨b, 7, none⟩ (.string ⟨#[]⟩)) := (T2.put r).put r2
      replace f3 : (w2.setCell ⟨b, 6, none⟩ (.string (d.s3 ++ d.l3.extract 0 (kept k3 d.l3)))).frozen? ⟨b, 7, none⟩ = false := f3
      replace c3 : (w2.setCell ⟨b, 6, none⟩ (.string (d.s3 ++ d.l3.extract 0 (kept k3 d.l3)))).cell? ⟨b, 7, none⟩ = some (.string d.l3) := c3
      clear T hK r r2
      go_quiet (fail)
      generalize (if (d.l3.size : Int) < k3 then (d.l3.size : Int) else k3) = mm
      go_wp2_with fail
      go_region
      all_goals (go_wp2; go_roundw)
      all_goals first
        | exact ⟨4, by omega, by omega, rfl, T3.drewN (nq + 1), (heap2 (w2.drewN (nq + 1)) hne _ _ _ _).trans hK2⟩
        | (simp [intOf]; done)
        | (simp [intOf]; omega)
    · have f8 := T.is.f8
      have c8 := T.is.c8
      have r := T.is.p8 (-1)
      have c9 := r.c9
      have f9 := r.f9
      have r2 := r.p9 false
      go_wp2
      go_end0
      exact ⟨rfl, (T.put r).put r2⟩
end Go.Proofs.Ytejfdiiennnjjaa.D
