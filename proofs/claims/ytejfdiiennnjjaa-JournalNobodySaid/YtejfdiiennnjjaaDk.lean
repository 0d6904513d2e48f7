/- Package disk: what each method does to the disk's block. -/
import Derived.Test.YtejfdiiennnjjaaProg
import Derived.Below
import Derived.WalkKit
import Derived.OneCell
import Derived.Lib.Hide
import Derived.Outline
import Derived.Deep.LoopGhost
import Derived.Deep.QuietTactic
import Derived.BigQuiet
namespace Go.Proofs.Ytejfdiiennnjjaa.D
open Go.RowKit Go.Proofs Go.Proofs.Ytejfdiiennnjjaa
set_option linter.unusedVariables false

/-- A disk: four files, each with what is safe and what is late; the changes left; without power; made. -/
structure Dk where
  s0 : ByteArray
  l0 : ByteArray
  s1 : ByteArray
  l1 : ByteArray
  s2 : ByteArray
  l2 : ByteArray
  s3 : ByteArray
  l3 : ByteArray
  left : Int
  dead : Bool
  made : Bool
def Dk.cells (d : Dk) : Array Value := #[.string d.s0, .string d.l0, .string d.s1, .string d.l1, .string d.s2, .string d.l2, .string d.s3, .string d.l3, .int .i64 d.left, .bool d.dead, .bool d.made]
/-- The block holds that disk. -/
def Is (b : Nat) (d : Dk) (w : World) : Prop := w.heap[b]? = some (.cells d.cells 83 (0, 0))
theorem Is.get {b : Nat} {d : Dk} {w : World} (h : Is b d w) (k : Nat) (hk : k < 11) : w.cell? ⟨b, k, none⟩ = some (d.cells[k]'hk) := by
  unfold Is at h
  simp only [World.cell?, h]
  rw [Array.getElem?_eq_getElem hk]
  rfl
theorem Is.free {b : Nat} {d : Dk} {w : World} (h : Is b d w) (k : Nat) (hk : k < 11) : w.frozen? ⟨b, k, none⟩ = false := by
  unfold Is at h
  simp [World.frozen?, h]
theorem Is.put {b : Nat} {d d' : Dk} {w : World} (h : Is b d w) (k : Nat) (hk : k < 11) (v : Value) (e : d.cells.set k v hk = d'.cells) : Is b d' (w.setCell ⟨b, k, none⟩ v) := by
  unfold Is at h ⊢
  have hlt := lt_of_block h
  have h' : w.heap[b] = .cells d.cells 83 (0, 0) := by simpa [Array.getElem?_eq_getElem hlt] using h
  show (w.heap.modify b _)[b]? = _
  rw [Array.getElem?_eq_getElem (by simpa using hlt), Array.getElem_modify_self, h', ← e]
  show some (Obj.cells (d.cells.setIfInBounds k v) 83 (0, 0)) = _
  rw [Array.setIfInBounds, dif_pos (show k < d.cells.size from hk)]
theorem Is.c0 {b : Nat} {d : Dk} {w : World} (h : Is b d w) : w.cell? ⟨b, 0, none⟩ = some (.string d.s0) := h.get 0 (by decide)
theorem Is.f0 {b : Nat} {d : Dk} {w : World} (h : Is b d w) : w.frozen? ⟨b, 0, none⟩ = false := h.free 0 (by decide)
theorem Is.p0 {b : Nat} {d : Dk} {w : World} (h : Is b d w) (x : ByteArray) : Is b { d with s0 := x } (w.setCell ⟨b, 0, none⟩ (.string x)) := h.put 0 (by decide) _ rfl
theorem Is.c1 {b : Nat} {d : Dk} {w : World} (h : Is b d w) : w.cell? ⟨b, 1, none⟩ = some (.string d.l0) := h.get 1 (by decide)
theorem Is.f1 {b : Nat} {d : Dk} {w : World} (h : Is b d w) : w.frozen? ⟨b, 1, none⟩ = false := h.free 1 (by decide)
theorem Is.p1 {b : Nat} {d : Dk} {w : World} (h : Is b d w) (x : ByteArray) : Is b { d with l0 := x } (w.setCell ⟨b, 1, none⟩ (.string x)) := h.put 1 (by decide) _ rfl
theorem Is.c2 {b : Nat} {d : Dk} {w : World} (h : Is b d w) : w.cell? ⟨b, 2, none⟩ = some (.string d.s1) := h.get 2 (by decide)
theorem Is.f2 {b : Nat} {d : Dk} {w : World} (h : Is b d w) : w.frozen? ⟨b, 2, none⟩ = false := h.free 2 (by decide)
theorem Is.p2 {b : Nat} {d : Dk} {w : World} (h : Is b d w) (x : ByteArray) : Is b { d with s1 := x } (w.setCell ⟨b, 2, none⟩ (.string x)) := h.put 2 (by decide) _ rfl
theorem Is.c3 {b : Nat} {d : Dk} {w : World} (h : Is b d w) : w.cell? ⟨b, 3, none⟩ = some (.string d.l1) := h.get 3 (by decide)
theorem Is.f3 {b : Nat} {d : Dk} {w : World} (h : Is b d w) : w.frozen? ⟨b, 3, none⟩ = false := h.free 3 (by decide)
theorem Is.p3 {b : Nat} {d : Dk} {w : World} (h : Is b d w) (x : ByteArray) : Is b { d with l1 := x } (w.setCell ⟨b, 3, none⟩ (.string x)) := h.put 3 (by decide) _ rfl
theorem Is.c4 {b : Nat} {d : Dk} {w : World} (h : Is b d w) : w.cell? ⟨b, 4, none⟩ = some (.string d.s2) := h.get 4 (by decide)
theorem Is.f4 {b : Nat} {d : Dk} {w : World} (h : Is b d w) : w.frozen? ⟨b, 4, none⟩ = false := h.free 4 (by decide)
theorem Is.p4 {b : Nat} {d : Dk} {w : World} (h : Is b d w) (x : ByteArray) : Is b { d with s2 := x } (w.setCell ⟨b, 4, none⟩ (.string x)) := h.put 4 (by decide) _ rfl
theorem Is.c5 {b : Nat} {d : Dk} {w : World} (h : Is b d w) : w.cell? ⟨b, 5, none⟩ = some (.string d.l2) := h.get 5 (by decide)
theorem Is.f5 {b : Nat} {d : Dk} {w : World} (h : Is b d w) : w.frozen? ⟨b, 5, none⟩ = false := h.free 5 (by decide)
theorem Is.p5 {b : Nat} {d : Dk} {w : World} (h : Is b d w) (x : ByteArray) : Is b { d with l2 := x } (w.setCell ⟨b, 5, none⟩ (.string x)) := h.put 5 (by decide) _ rfl
theorem Is.c6 {b : Nat} {d : Dk} {w : World} (h : Is b d w) : w.cell? ⟨b, 6, none⟩ = some (.string d.s3) := h.get 6 (by decide)
theorem Is.f6 {b : Nat} {d : Dk} {w : World} (h : Is b d w) : w.frozen? ⟨b, 6, none⟩ = false := h.free 6 (by decide)
theorem Is.p6 {b : Nat} {d : Dk} {w : World} (h : Is b d w) (x : ByteArray) : Is b { d with s3 := x } (w.setCell ⟨b, 6, none⟩ (.string x)) := h.put 6 (by decide) _ rfl
theorem Is.c7 {b : Nat} {d : Dk} {w : World} (h : Is b d w) : w.cell? ⟨b, 7, none⟩ = some (.string d.l3) := h.get 7 (by decide)
theorem Is.f7 {b : Nat} {d : Dk} {w : World} (h : Is b d w) : w.frozen? ⟨b, 7, none⟩ = false := h.free 7 (by decide)
theorem Is.p7 {b : Nat} {d : Dk} {w : World} (h : Is b d w) (x : ByteArray) : Is b { d with l3 := x } (w.setCell ⟨b, 7, none⟩ (.string x)) := h.put 7 (by decide) _ rfl
theorem Is.c8 {b : Nat} {d : Dk} {w : World} (h : Is b d w) : w.cell? ⟨b, 8, none⟩ = some (.int .i64 d.left) := h.get 8 (by decide)
theorem Is.f8 {b : Nat} {d : Dk} {w : World} (h : Is b d w) : w.frozen? ⟨b, 8, none⟩ = false := h.free 8 (by decide)
theorem Is.p8 {b : Nat} {d : Dk} {w : World} (h : Is b d w) (x : Int) : Is b { d with left := x } (w.setCell ⟨b, 8, none⟩ (.int .i64 x)) := h.put 8 (by decide) _ rfl
theorem Is.c9 {b : Nat} {d : Dk} {w : World} (h : Is b d w) : w.cell? ⟨b, 9, none⟩ = some (.bool d.dead) := h.get 9 (by decide)
theorem Is.f9 {b : Nat} {d : Dk} {w : World} (h : Is b d w) : w.frozen? ⟨b, 9, none⟩ = false := h.free 9 (by decide)
theorem Is.p9 {b : Nat} {d : Dk} {w : World} (h : Is b d w) (x : Bool) : Is b { d with dead := x } (w.setCell ⟨b, 9, none⟩ (.bool x)) := h.put 9 (by decide) _ rfl
theorem Is.c10 {b : Nat} {d : Dk} {w : World} (h : Is b d w) : w.cell? ⟨b, 10, none⟩ = some (.bool d.made) := h.get 10 (by decide)
theorem Is.f10 {b : Nat} {d : Dk} {w : World} (h : Is b d w) : w.frozen? ⟨b, 10, none⟩ = false := h.free 10 (by decide)
theorem Is.p10 {b : Nat} {d : Dk} {w : World} (h : Is b d w) (x : Bool) : Is b { d with made := x } (w.setCell ⟨b, 10, none⟩ (.bool x)) := h.put 10 (by decide) _ rfl

/-- The block holds that disk behind a call, and nothing else has changed. -/
structure Turn (b : Nat) (d : Dk) (w w' : World) : Prop where
  is : Is b d w'
  others : ∀ c, c < w.heap.size → c ≠ b → w'.heap[c]? = w.heap[c]?
  size : w.heap.size ≤ w'.heap.size
  below : ∀ B, B ≤ b → Below B w w'
theorem Turn.refl {b : Nat} {d : Dk} {w : World} (h : Is b d w) : Turn b d w w := ⟨h, fun _ _ _ => rfl, Nat.le_refl _, fun B _ => Below.refl B w⟩
theorem Turn.drew {b : Nat} {d : Dk} {w w' : World} (h : Turn b d w w') : Turn b d w w'.drew := ⟨h.is, h.others, h.size, fun B hB => (h.below B hB).drew⟩
theorem Turn.drewN {b : Nat} {d : Dk} {w w' : World} (h : Turn b d w w') (n : Nat) : Turn b d w (w'.drewN n) := ⟨h.is, h.others, h.size, fun B hB => (h.below B hB).trans ⟨rfl, rfl, rfl, Nat.le_refl _, fun _ _ => rfl⟩⟩
theorem Turn.put {b : Nat} {d d' : Dk} {w w' : World} (h : Turn b d w w') {k : Nat} {v : Value} (r : Is b d' (w'.setCell ⟨b, k, none⟩ v)) : Turn b d' w (w'.setCell ⟨b, k, none⟩ v) :=
  ⟨r, fun c hl hc => (Below.heap_setCell _ _ _ _ (by first | exact fun e => hc e | exact fun e => hc e.symm)).trans (h.others c hl hc), by have := h.size; simpa using this, fun B hB => (h.below B hB).setCell hB _⟩
theorem Turn.trans {b : Nat} {d d' : Dk} {w w1 w2 : World} (h : Turn b d w w1) (h' : Turn b d' w1 w2) : Turn b d' w w2 :=
  ⟨h'.is, fun c hl hc => (h'.others c (Nat.lt_of_lt_of_le hl h.size) hc).trans (h.others c hl hc), Nat.le_trans h.size h'.size, fun B hB => (h.below B hB).trans (h'.below B hB)⟩

def zero : Dk := ⟨⟨#[]⟩, ⟨#[]⟩, ⟨#[]⟩, ⟨#[]⟩, ⟨#[]⟩, ⟨#[]⟩, ⟨#[]⟩, ⟨#[]⟩, -1, false, true⟩
set_option maxRecDepth 100000 in
theorem New_any (w : World) : Calls Try.prog 31 #[] w fun e w' => e = .returned (.pointer (some ⟨w.heap.size, 0, none⟩)) ∧ Is w.heap.size zero w' ∧ Below w.heap.size w w' := by
  go_enter Try.func31, Try.ntmps31
  go_wp2
  go_ret
  exact ⟨rfl, by unfold Is; exact heap_alloc_new _ _, (Below.refl _ _).alloc (Nat.le_refl _) _⟩

/-- What ready answers. -/
def rdy (d : Dk) (i : Int) : Int := if d.made = false then 3 else if d.dead = true then 13 else if i < 0 ∨ 4 ≤ i then 6 else 0
set_option maxRecDepth 100000 in
theorem ready_nil (i : Int) (w : World) : Calls Try.prog 61 #[.pointer none, .int .i64 i] w fun e w' => e = .returned (.int .i64 3) ∧ w' = w := by
  go_enter Try.func61, Try.ntmps61
  go_wp2
  go_ret
  exact ⟨rfl, rfl⟩
set_option maxRecDepth 100000 in
theorem ready_any (b : Nat) (d : Dk) (i : Int) (w : World) (h : Is b d w) : Calls Try.prog 61 #[.pointer (some ⟨b, 0, none⟩), .int .i64 i] w fun e w' => e = .returned (.int .i64 (rdy d i)) ∧ w' = w := by
  have c9 := h.c9
  have c10 := h.c10
  unfold rdy
  cases hm : d.made
  · rw [hm] at c10
    rw [if_pos rfl]
    go_enter Try.func61, Try.ntmps61
    go_wp2
    go_ret
    exact ⟨rfl, rfl⟩
  · rw [hm] at c10
    rw [if_neg (by simp)]
    cases hd : d.dead
    · rw [hd] at c9
      rw [if_neg (by simp)]
      by_cases h0 : i < 0
      · rw [if_pos (Or.inl h0)]
        go_enter Try.func61, Try.ntmps61
        go_wp2
        go_ret
        exact ⟨rfl, rfl⟩
      · by_cases h4 : 4 ≤ i
        · rw [if_pos (Or.inr h4)]
          go_enter Try.func61, Try.ntmps61
          go_wp2
          go_ret
          exact ⟨rfl, rfl⟩
        · rw [if_neg (by omega)]
          go_enter Try.func61, Try.ntmps61
          go_wp2
          go_ret
          exact ⟨rfl, rfl⟩
    · rw [hd] at c9
      rw [if_pos rfl]
      go_enter Try.func61, Try.ntmps61
      go_wp2
      go_ret
      exact ⟨rfl, rfl⟩

/-- What use answers, and leaves. -/
def useN (d : Dk) : Int := if d.left = 0 then 13 else 0
def useD (d : Dk) : Dk := if d.left = 0 then { d with dead := true } else if 0 < d.left then { d with left := d.left - 1 } else d
set_option maxRecDepth 100000 in
theorem use_any (b : Nat) (d : Dk) (w : World) (h : Is b d w) (hr : d.left ≤ 9223372036854775807) : Calls Try.prog 62 #[.pointer (some ⟨b, 0, none⟩)] w fun e w' => e = .returned (.int .i64 (useN d)) ∧ Turn b (useD d) w w' := by
  have c8 := h.c8
  have c9 := h.c9
  have f8 := h.f8
  have f9 := h.f9
  unfold useN useD
  by_cases h0 : d.left = 0
  · rw [if_pos h0, if_pos h0]
    rw [h0] at c8
    have r := h.p9 true
    go_enter Try.func62, Try.ntmps62
    go_wp2
    go_ret
    exact ⟨rfl, (Turn.refl h).put r⟩
  · rw [if_neg h0, if_neg h0]
    by_cases h1 : 0 < d.left
    · rw [if_pos h1]
      have r := h.p8 (d.left - 1)
      go_enter Try.func62, Try.ntmps62
      go_wp2
      go_ret
      exact ⟨rfl, (Turn.refl h).put r⟩
    · rw [if_neg h1]
      go_enter Try.func62, Try.ntmps62
      go_wp2
      go_ret
      exact ⟨rfl, Turn.refl h⟩
end Go.Proofs.Ytejfdiiennnjjaa.D
