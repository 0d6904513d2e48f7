/- The document's disk (lombardref06) in memory; what its Crash computes. -/
import Derived.Test.YtejfdiiennnjjaaRb
import Derived.LoopTactic
import Derived.Test.YtejfdiiennnjjaaDp
namespace Go.Proofs.Ytejfdiiennnjjaa.R
open Go.RowKit Go.Proofs Go.Proofs.Ytejfdiiennnjjaa
set_option linter.unusedVariables false

def Is (b : Nat) (d : Rf) (w : World) : Prop := w.heap[b]? = some (.cells d.cells 69 (0, 0))
theorem Is.get {b : Nat} {d : Rf} {w : World} (h : Is b d w) (k : Nat) (hk : k < 10) : w.cell? ⟨b, k, none⟩ = some (d.cells[k]'hk) := by
  unfold Is at h
  simp only [World.cell?, h]
  rw [Array.getElem?_eq_getElem hk]
  rfl
theorem Is.free {b : Nat} {d : Rf} {w : World} (h : Is b d w) (k : Nat) (hk : k < 10) : w.frozen? ⟨b, k, none⟩ = false := by
  unfold Is at h
  simp [World.frozen?, h]
theorem Is.put {b : Nat} {d d' : Rf} {w : World} (h : Is b d w) (k : Nat) (hk : k < 10) (v : Value) (e : d.cells.set k v hk = d'.cells) : Is b d' (w.setCell ⟨b, k, none⟩ v) := by
  unfold Is at h ⊢
  have hlt := lt_of_block h
  have h' : w.heap[b] = .cells d.cells 69 (0, 0) := by simpa [Array.getElem?_eq_getElem hlt] using h
  show (w.heap.modify b _)[b]? = _
  rw [Array.getElem?_eq_getElem (by simpa using hlt), Array.getElem_modify_self, h', ← e]
  show some (Obj.cells (d.cells.setIfInBounds k v) 69 (0, 0)) = _
  rw [Array.setIfInBounds, dif_pos (show k < d.cells.size from hk)]
theorem Is.c0 {b : Nat} {d : Rf} {w : World} (h : Is b d w) : w.cell? ⟨b, 0, none⟩ = some (.string d.a0) := h.get 0 (by decide)
theorem Is.f0 {b : Nat} {d : Rf} {w : World} (h : Is b d w) : w.frozen? ⟨b, 0, none⟩ = false := h.free 0 (by decide)
theorem Is.p0 {b : Nat} {d : Rf} {w : World} (h : Is b d w) (x : ByteArray) : Is b { d with a0 := x } (w.setCell ⟨b, 0, none⟩ (.string x)) := h.put 0 (by decide) _ rfl
theorem Is.c1 {b : Nat} {d : Rf} {w : World} (h : Is b d w) : w.cell? ⟨b, 1, none⟩ = some (.int .i64 d.p0) := h.get 1 (by decide)
theorem Is.f1 {b : Nat} {d : Rf} {w : World} (h : Is b d w) : w.frozen? ⟨b, 1, none⟩ = false := h.free 1 (by decide)
theorem Is.p1 {b : Nat} {d : Rf} {w : World} (h : Is b d w) (x : Int) : Is b { d with p0 := x } (w.setCell ⟨b, 1, none⟩ (.int .i64 x)) := h.put 1 (by decide) _ rfl
theorem Is.c2 {b : Nat} {d : Rf} {w : World} (h : Is b d w) : w.cell? ⟨b, 2, none⟩ = some (.string d.a1) := h.get 2 (by decide)
theorem Is.f2 {b : Nat} {d : Rf} {w : World} (h : Is b d w) : w.frozen? ⟨b, 2, none⟩ = false := h.free 2 (by decide)
theorem Is.p2 {b : Nat} {d : Rf} {w : World} (h : Is b d w) (x : ByteArray) : Is b { d with a1 := x } (w.setCell ⟨b, 2, none⟩ (.string x)) := h.put 2 (by decide) _ rfl
theorem Is.c3 {b : Nat} {d : Rf} {w : World} (h : Is b d w) : w.cell? ⟨b, 3, none⟩ = some (.int .i64 d.p1) := h.get 3 (by decide)
theorem Is.f3 {b : Nat} {d : Rf} {w : World} (h : Is b d w) : w.frozen? ⟨b, 3, none⟩ = false := h.free 3 (by decide)
theorem Is.p3 {b : Nat} {d : Rf} {w : World} (h : Is b d w) (x : Int) : Is b { d with p1 := x } (w.setCell ⟨b, 3, none⟩ (.int .i64 x)) := h.put 3 (by decide) _ rfl
theorem Is.c4 {b : Nat} {d : Rf} {w : World} (h : Is b d w) : w.cell? ⟨b, 4, none⟩ = some (.string d.a2) := h.get 4 (by decide)
theorem Is.f4 {b : Nat} {d : Rf} {w : World} (h : Is b d w) : w.frozen? ⟨b, 4, none⟩ = false := h.free 4 (by decide)
theorem Is.p4 {b : Nat} {d : Rf} {w : World} (h : Is b d w) (x : ByteArray) : Is b { d with a2 := x } (w.setCell ⟨b, 4, none⟩ (.string x)) := h.put 4 (by decide) _ rfl
theorem Is.c5 {b : Nat} {d : Rf} {w : World} (h : Is b d w) : w.cell? ⟨b, 5, none⟩ = some (.int .i64 d.p2) := h.get 5 (by decide)
theorem Is.f5 {b : Nat} {d : Rf} {w : World} (h : Is b d w) : w.frozen? ⟨b, 5, none⟩ = false := h.free 5 (by decide)
theorem Is.p5 {b : Nat} {d : Rf} {w : World} (h : Is b d w) (x : Int) : Is b { d with p2 := x } (w.setCell ⟨b, 5, none⟩ (.int .i64 x)) := h.put 5 (by decide) _ rfl
theorem Is.c6 {b : Nat} {d : Rf} {w : World} (h : Is b d w) : w.cell? ⟨b, 6, none⟩ = some (.string d.a3) := h.get 6 (by decide)
theorem Is.f6 {b : Nat} {d : Rf} {w : World} (h : Is b d w) : w.frozen? ⟨b, 6, none⟩ = false := h.free 6 (by decide)
theorem Is.p6 {b : Nat} {d : Rf} {w : World} (h : Is b d w) (x : ByteArray) : Is b { d with a3 := x } (w.setCell ⟨b, 6, none⟩ (.string x)) := h.put 6 (by decide) _ rfl
theorem Is.c7 {b : Nat} {d : Rf} {w : World} (h : Is b d w) : w.cell? ⟨b, 7, none⟩ = some (.int .i64 d.p3) := h.get 7 (by decide)
theorem Is.f7 {b : Nat} {d : Rf} {w : World} (h : Is b d w) : w.frozen? ⟨b, 7, none⟩ = false := h.free 7 (by decide)
theorem Is.p7 {b : Nat} {d : Rf} {w : World} (h : Is b d w) (x : Int) : Is b { d with p3 := x } (w.setCell ⟨b, 7, none⟩ (.int .i64 x)) := h.put 7 (by decide) _ rfl
theorem Is.c8 {b : Nat} {d : Rf} {w : World} (h : Is b d w) : w.cell? ⟨b, 8, none⟩ = some (.int .i64 d.limit) := h.get 8 (by decide)
theorem Is.f8 {b : Nat} {d : Rf} {w : World} (h : Is b d w) : w.frozen? ⟨b, 8, none⟩ = false := h.free 8 (by decide)
theorem Is.p8 {b : Nat} {d : Rf} {w : World} (h : Is b d w) (x : Int) : Is b { d with limit := x } (w.setCell ⟨b, 8, none⟩ (.int .i64 x)) := h.put 8 (by decide) _ rfl
theorem Is.c9 {b : Nat} {d : Rf} {w : World} (h : Is b d w) : w.cell? ⟨b, 9, none⟩ = some (.bool d.gone) := h.get 9 (by decide)
theorem Is.f9 {b : Nat} {d : Rf} {w : World} (h : Is b d w) : w.frozen? ⟨b, 9, none⟩ = false := h.free 9 (by decide)
theorem Is.p9 {b : Nat} {d : Rf} {w : World} (h : Is b d w) (x : Bool) : Is b { d with gone := x } (w.setCell ⟨b, 9, none⟩ (.bool x)) := h.put 9 (by decide) _ rfl

/-- The block holds that disk behind a call, and nothing else has changed. -/
structure Turn (b : Nat) (d : Rf) (w w' : World) : Prop where
  is : Is b d w'
  others : ∀ c, c < w.heap.size → c ≠ b → w'.heap[c]? = w.heap[c]?
  size : w.heap.size ≤ w'.heap.size
  below : ∀ B, B ≤ b → Below B w w'
theorem Turn.refl {b : Nat} {d : Rf} {w : World} (h : Is b d w) : Turn b d w w := ⟨h, fun _ _ _ => rfl, Nat.le_refl _, fun B _ => Below.refl B w⟩
theorem Turn.drew {b : Nat} {d : Rf} {w w' : World} (h : Turn b d w w') : Turn b d w w'.drew := ⟨h.is, h.others, h.size, fun B hB => (h.below B hB).drew⟩
theorem Turn.drewN {b : Nat} {d : Rf} {w w' : World} (h : Turn b d w w') (n : Nat) : Turn b d w (w'.drewN n) := ⟨h.is, h.others, h.size, fun B hB => (h.below B hB).trans ⟨rfl, rfl, rfl, Nat.le_refl _, fun _ _ => rfl⟩⟩
theorem Turn.put {b : Nat} {d d' : Rf} {w w' : World} (h : Turn b d w w') {k : Nat} {v : Value} (r : Is b d' (w'.setCell ⟨b, k, none⟩ v)) : Turn b d' w (w'.setCell ⟨b, k, none⟩ v) :=
  ⟨r, fun c hl hc => (Below.heap_setCell _ _ _ _ (by first | exact fun e => hc e | exact fun e => hc e.symm)).trans (h.others c hl hc), by have := h.size; simpa using this, fun B hB => (h.below B hB).setCell hB _⟩
theorem Turn.trans {b : Nat} {d d' : Rf} {w w1 w2 : World} (h : Turn b d w w1) (h' : Turn b d' w1 w2) : Turn b d' w w2 :=
  ⟨h'.is, fun c hl hc => (h'.others c (Nat.lt_of_lt_of_le hl h.size) hc).trans (h.others c hl hc), Nat.le_trans h.size h'.size, fun B hB => (h.below B hB).trans (h'.below B hB)⟩
theorem Turn.alloc {b : Nat} {d : Rf} {w w' : World} (h : Turn b d w w') (o : Obj) : Turn b d w (w'.alloc o) :=
  ⟨by have := h.is; unfold Is at this ⊢; rw [Below.heap_alloc _ _ _ (lt_of_block this)]; exact this, fun c hl hc => (Below.heap_alloc _ _ _ (Nat.lt_of_lt_of_le hl h.size)).trans (h.others c hl hc), Nat.le_trans h.size (by simp), fun B hB => (h.below B hB).alloc (Nat.le_trans hB (Nat.le_of_lt (lt_of_block h.is))) _⟩

/-- How long a file is behind a crash. -/
def cn (a : ByteArray) (p k : Int) : Int := if k < (a.size : Int) - p then (if 0 < k then p + k else p) else (a.size : Int)
def ca (a : ByteArray) (p k : Int) : ByteArray := a.extract 0 (cn a p k).toNat
def crash (r : Rf) (k0 k1 k2 k3 : Int) : Rf := ⟨ca r.a0 r.p0 k0, cn r.a0 r.p0 k0, ca r.a1 r.p1 k1, cn r.a1 r.p1 k1, ca r.a2 r.p2 k2, cn r.a2 r.p2 k2, ca r.a3 r.p3 k3, cn r.a3 r.p3 k3, -1, false⟩
def part (r : Rf) (k0 k1 k2 k3 : Int) : Nat → Rf
  | 0 => r
  | 1 => { r with a0 := ca r.a0 r.p0 k0, p0 := cn r.a0 r.p0 k0 }
  | 2 => { r with a0 := ca r.a0 r.p0 k0, p0 := cn r.a0 r.p0 k0, a1 := ca r.a1 r.p1 k1, p1 := cn r.a1 r.p1 k1 }
  | 3 => { r with a0 := ca r.a0 r.p0 k0, p0 := cn r.a0 r.p0 k0, a1 := ca r.a1 r.p1 k1, p1 := cn r.a1 r.p1 k1, a2 := ca r.a2 r.p2 k2, p2 := cn r.a2 r.p2 k2 }
  | _ => { r with a0 := ca r.a0 r.p0 k0, p0 := cn r.a0 r.p0 k0, a1 := ca r.a1 r.p1 k1, p1 := cn r.a1 r.p1 k1, a2 := ca r.a2 r.p2 k2, p2 := cn r.a2 r.p2 k2, a3 := ca r.a3 r.p3 k3, p3 := cn r.a3 r.p3 k3 }
/-- What is safe is no more than all. -/
def Rf.Safe (r : Rf) : Prop := (0 ≤ r.p0 ∧ r.p0 ≤ r.a0.size) ∧ (0 ≤ r.p1 ∧ r.p1 ≤ r.a1.size) ∧ (0 ≤ r.p2 ∧ r.p2 ≤ r.a2.size) ∧ (0 ≤ r.p3 ∧ r.p3 ≤ r.a3.size)
/-- What the loop of Crash keeps. -/
structure CInv (w0 : World) (r : Rf) (k0 k1 k2 k3 : Int) (w : World) : Prop where
  is : Is w0.heap.size r w
  keep : w.heap[w0.heap.size + 1]? = some (.cells #[.int .i64 k0, .int .i64 k1, .int .i64 k2, .int .i64 k3] 59 (0, 0))
  res : ∃ z : Rf, w.heap[w0.heap.size + 1 + 1]? = some (.cells z.cells 69 (0, 0))
  below : Below w0.heap.size w0 w
theorem extr_all (s : ByteArray) : s.extract 0 s.size = s := ByteArray.extract_zero_size
theorem step0 {r : Rf} {k0 k1 k2 k3 : Int} {w w2 : World} {z : Rf} (hI : Is w.heap.size (part r k0 k1 k2 k3 0) w2) (hK : w2.heap[w.heap.size + 1]? = some (.cells #[.int .i64 k0, .int .i64 k1, .int .i64 k2, .int .i64 k3] 59 (0, 0)))
    (hZ : w2.heap[w.heap.size + 1 + 1]? = some (.cells z.cells 69 (0, 0))) (hB : Below w.heap.size w w2) (q : Nat) (X : ByteArray) (Y : Int) (hX : ca r.a0 r.p0 k0 = X) (hY : cn r.a0 r.p0 k0 = Y) :
    CInv w (part r k0 k1 k2 k3 1) k0 k1 k2 k3 (((w2.drewN q).setCell ⟨w.heap.size, 0, none⟩ (.string X)).setCell ⟨w.heap.size, 1, none⟩ (.int .i64 Y)) := by
  subst hX hY
  exact ⟨Is.p1 (Is.p0 (show Is w.heap.size _ (w2.drewN q) from hI) _) _, (D.heap2 (w2.drewN q) (by omega) _ _ _ _).trans hK, ⟨z, (D.heap2 (w2.drewN q) (by omega) _ _ _ _).trans hZ⟩,
    (((hB.trans ⟨rfl, rfl, rfl, Nat.le_refl _, fun _ _ => rfl⟩ : Below w.heap.size w (w2.drewN q))).setCell (Nat.le_refl _) _).setCell (Nat.le_refl _) _⟩
theorem step1 {r : Rf} {k0 k1 k2 k3 : Int} {w w2 : World} {z : Rf} (hI : Is w.heap.size (part r k0 k1 k2 k3 1) w2) (hK : w2.heap[w.heap.size + 1]? = some (.cells #[.int .i64 k0, .int .i64 k1, .int .i64 k2, .int .i64 k3] 59 (0, 0)))
    (hZ : w2.heap[w.heap.size + 1 + 1]? = some (.cells z.cells 69 (0, 0))) (hB : Below w.heap.size w w2) (q : Nat) (X : ByteArray) (Y : Int) (hX : ca r.a1 r.p1 k1 = X) (hY : cn r.a1 r.p1 k1 = Y) :
    CInv w (part r k0 k1 k2 k3 2) k0 k1 k2 k3 (((w2.drewN q).setCell ⟨w.heap.size, 2, none⟩ (.string X)).setCell ⟨w.heap.size, 3, none⟩ (.int .i64 Y)) := by
  subst hX hY
  exact ⟨Is.p3 (Is.p2 (show Is w.heap.size _ (w2.drewN q) from hI) _) _, (D.heap2 (w2.drewN q) (by omega) _ _ _ _).trans hK, ⟨z, (D.heap2 (w2.drewN q) (by omega) _ _ _ _).trans hZ⟩,
    (((hB.trans ⟨rfl, rfl, rfl, Nat.le_refl _, fun _ _ => rfl⟩ : Below w.heap.size w (w2.drewN q))).setCell (Nat.le_refl _) _).setCell (Nat.le_refl _) _⟩
theorem step2 {r : Rf} {k0 k1 k2 k3 : Int} {w w2 : World} {z : Rf} (hI : Is w.heap.size (part r k0 k1 k2 k3 2) w2) (hK : w2.heap[w.heap.size + 1]? = some (.cells #[.int .i64 k0, .int .i64 k1, .int .i64 k2, .int .i64 k3] 59 (0, 0)))
    (hZ : w2.heap[w.heap.size + 1 + 1]? = some (.cells z.cells 69 (0, 0))) (hB : Below w.heap.size w w2) (q : Nat) (X : ByteArray) (Y : Int) (hX : ca r.a2 r.p2 k2 = X) (hY : cn r.a2 r.p2 k2 = Y) :
    CInv w (part r k0 k1 k2 k3 3) k0 k1 k2 k3 (((w2.drewN q).setCell ⟨w.heap.size, 4, none⟩ (.string X)).setCell ⟨w.heap.size, 5, none⟩ (.int .i64 Y)) := by
  subst hX hY
  exact ⟨Is.p5 (Is.p4 (show Is w.heap.size _ (w2.drewN q) from hI) _) _, (D.heap2 (w2.drewN q) (by omega) _ _ _ _).trans hK, ⟨z, (D.heap2 (w2.drewN q) (by omega) _ _ _ _).trans hZ⟩,
    (((hB.trans ⟨rfl, rfl, rfl, Nat.le_refl _, fun _ _ => rfl⟩ : Below w.heap.size w (w2.drewN q))).setCell (Nat.le_refl _) _).setCell (Nat.le_refl _) _⟩
theorem step3 {r : Rf} {k0 k1 k2 k3 : Int} {w w2 : World} {z : Rf} (hI : Is w.heap.size (part r k0 k1 k2 k3 3) w2) (hK : w2.heap[w.heap.size + 1]? = some (.cells #[.int .i64 k0, .int .i64 k1, .int .i64 k2, .int .i64 k3] 59 (0, 0)))
    (hZ : w2.heap[w.heap.size + 1 + 1]? = some (.cells z.cells 69 (0, 0))) (hB : Below w.heap.size w w2) (q : Nat) (X : ByteArray) (Y : Int) (hX : ca r.a3 r.p3 k3 = X) (hY : cn r.a3 r.p3 k3 = Y) :
    CInv w (part r k0 k1 k2 k3 4) k0 k1 k2 k3 (((w2.drewN q).setCell ⟨w.heap.size, 6, none⟩ (.string X)).setCell ⟨w.heap.size, 7, none⟩ (.int .i64 Y)) := by
  subst hX hY
  exact ⟨Is.p7 (Is.p6 (show Is w.heap.size _ (w2.drewN q) from hI) _) _, (D.heap2 (w2.drewN q) (by omega) _ _ _ _).trans hK, ⟨z, (D.heap2 (w2.drewN q) (by omega) _ _ _ _).trans hZ⟩,
    (((hB.trans ⟨rfl, rfl, rfl, Nat.le_refl _, fun _ _ => rfl⟩ : Below w.heap.size w (w2.drewN q))).setCell (Nat.le_refl _) _).setCell (Nat.le_refl _) _⟩
theorem at3 (w : World) (o1 o2 o3 : Obj) : (((w.alloc o1).alloc o2).alloc o3).heap[w.heap.size + 1 + 1]? = some o3 := by
  have := heap_alloc_new ((w.alloc o1).alloc o2) o3
  simpa using this
set_option maxRecDepth 100000 in
set_option maxHeartbeats 8000000 in
theorem Crash_any (r : Rf) (k0 k1 k2 k3 : Int) (w : World) (hf : r.Fits) (hs : r.Safe) : Calls Try.prog 66 #[.agg r.cells, .agg #[.int .i64 k0, .int .i64 k1, .int .i64 k2, .int .i64 k3]] w fun e w' => e = .returned (.agg (crash r k0 k1 k2 k3).cells) ∧ Below w.heap.size w w' := by
  obtain ⟨g0, g1, g2, g3, _⟩ := hf
  obtain ⟨⟨s0, t0⟩, ⟨s1, t1⟩, ⟨s2, t2⟩, s3, t3⟩ := hs
  go_enter Try.func66, Try.ntmps66
  go_wp2
  go_loopw [5] (fun i wr => ∃ n : Int, 0 ≤ n ∧ n ≤ 4 ∧ i = .int .i64 n ∧ CInv w (part r k0 k1 k2 k3 n.toNat) k0 k1 k2 k3 wr) (fun i _ => (4 - intOf i).toNat)
  case atStart =>
    refine ⟨0, by omega, by omega, rfl, ?_, ?_, ?_, ?_⟩
    · unfold Is; rw [Below.heap_alloc _ _ _ (by simp; omega), Below.heap_alloc _ _ _ (by simp)]; exact heap_alloc_new _ _
    · rw [Below.heap_alloc _ _ _ (by simp)]; exact at2 _ _ _
    · refine ⟨⟨⟨#[]⟩, 0, ⟨#[]⟩, 0, ⟨#[]⟩, 0, ⟨#[]⟩, 0, 0, false⟩, ?_⟩
      exact at3 _ _ _ _
    · exact (((Below.refl _ _).alloc (Nat.le_refl _) _).alloc (by simp) _).alloc (by simp; omega) _
  case round =>
    obtain ⟨n, hn0, hn4, rfl, I⟩ := hrel
    obtain ⟨hI, hK, ⟨z, hZ⟩, hB⟩ := I
    have kc0 : wr.cell? ⟨w.heap.size + 1, 0, none⟩ = some (.int .i64 k0) := by simp [World.cell?, hK]
    have kc1 : wr.cell? ⟨w.heap.size + 1, 1, none⟩ = some (.int .i64 k1) := by simp [World.cell?, hK]
    have kc2 : wr.cell? ⟨w.heap.size + 1, 2, none⟩ = some (.int .i64 k2) := by simp [World.cell?, hK]
    have kc3 : wr.cell? ⟨w.heap.size + 1, 3, none⟩ = some (.int .i64 k3) := by simp [World.cell?, hK]
    have hKl := lt_of_block hK
    have hZl := lt_of_block hZ
    obtain rfl | rfl | rfl | rfl | rfl : n = 0 ∨ n = 1 ∨ n = 2 ∨ n = 3 ∨ n = 4 := by omega
    · replace hI : Is w.heap.size (part r k0 k1 k2 k3 0) wr := hI
      have c := hI.c0
      have c' := hI.c1
      replace c : wr.cell? ⟨w.heap.size, 0, none⟩ = some (.string r.a0) := c
      replace c' : wr.cell? ⟨w.heap.size, 1, none⟩ = some (.int .i64 r.p0) := c'
      go_wp2_with fail
      obtain ⟨n0, n1⟩ := D.new_pair wr (.string r.a0) (.int .i64 r.p0) 66
      have hI2 := ((Turn.refl hI).alloc (Obj.cells #[.string r.a0, .int .i64 r.p0] 66)).is
      have hK2 := (Below.heap_alloc wr (Obj.cells #[.string r.a0, .int .i64 r.p0] 66) _ hKl).trans hK
      have hZ2 := (Below.heap_alloc wr (Obj.cells #[.string r.a0, .int .i64 r.p0] 66) _ hZl).trans hZ
      have hB2 := hB.alloc (Nat.le_of_lt (lt_of_block hI)) (Obj.cells #[.string r.a0, .int .i64 r.p0] 66)
      clear kc0 kc1 kc2 kc3 c c' hK hZ hB hI
      generalize wr.alloc (Obj.cells #[.string r.a0, .int .i64 r.p0] 66) = w2 at *
      have kc : w2.cell? ⟨w.heap.size + 1, 0, none⟩ = some (.int .i64 k0) := by simp [World.cell?, hK2]
      have f := hI2.f0
      have c := hI2.c0
      have c' := hI2.c1
      have f' := hI2.f1
      by_cases h1 : k0 < (r.a0.size : Int) - r.p0
      · by_cases h2 : 0 < k0
        · have hcn : cn r.a0 r.p0 k0 = r.p0 + k0 := by unfold cn; rw [if_pos h1, if_pos h2]
          go_quiet (fail)
          go_wp2_with fail
          go_quiet (fail)
          go_wp2_with fail
          go_roundw
          case rel => exact ⟨1, by omega, by omega, rfl, step0 hI2 hK2 hZ2 hB2 _ _ _ (by unfold ca; rw [hcn]) hcn⟩
          case measure => simp [intOf]
        · have hcn : cn r.a0 r.p0 k0 = r.p0 := by unfold cn; rw [if_pos h1, if_neg h2]
          go_quiet (fail)
          go_wp2_with fail
          go_roundw
          case rel => exact ⟨1, by omega, by omega, rfl, step0 hI2 hK2 hZ2 hB2 _ _ _ (by unfold ca; rw [hcn]) hcn⟩
          case measure => simp [intOf]
      · have hcn : cn r.a0 r.p0 k0 = (r.a0.size : Int) := by unfold cn; rw [if_neg h1]
        go_quiet (fail)
        go_wp2_with fail
        go_roundw
        case rel => exact ⟨1, by omega, by omega, rfl, step0 hI2 hK2 hZ2 hB2 _ _ _ (by unfold ca; rw [hcn, Int.toNat_natCast]; exact extr_all _) hcn⟩
        case measure => simp [intOf]
    · replace hI : Is w.heap.size (part r k0 k1 k2 k3 1) wr := hI
      have c := hI.c2
      have c' := hI.c3
      replace c : wr.cell? ⟨w.heap.size, 2, none⟩ = some (.string r.a1) := c
      replace c' : wr.cell? ⟨w.heap.size, 3, none⟩ = some (.int .i64 r.p1) := c'
      go_wp2_with fail
      obtain ⟨n0, n1⟩ := D.new_pair wr (.string r.a1) (.int .i64 r.p1) 66
      have hI2 := ((Turn.refl hI).alloc (Obj.cells #[.string r.a1, .int .i64 r.p1] 66)).is
      have hK2 := (Below.heap_alloc wr (Obj.cells #[.string r.a1, .int .i64 r.p1] 66) _ hKl).trans hK
      have hZ2 := (Below.heap_alloc wr (Obj.cells #[.string r.a1, .int .i64 r.p1] 66) _ hZl).trans hZ
      have hB2 := hB.alloc (Nat.le_of_lt (lt_of_block hI)) (Obj.cells #[.string r.a1, .int .i64 r.p1] 66)
      clear kc0 kc1 kc2 kc3 c c' hK hZ hB hI
      generalize wr.alloc (Obj.cells #[.string r.a1, .int .i64 r.p1] 66) = w2 at *
      have kc : w2.cell? ⟨w.heap.size + 1, 1, none⟩ = some (.int .i64 k1) := by simp [World.cell?, hK2]
      have f := hI2.f2
      have c := hI2.c2
      have c' := hI2.c3
      have f' := hI2.f3
      by_cases h1 : k1 < (r.a1.size : Int) - r.p1
      · by_cases h2 : 0 < k1
        · have hcn : cn r.a1 r.p1 k1 = r.p1 + k1 := by unfold cn; rw [if_pos h1, if_pos h2]
          go_quiet (fail)
          go_wp2_with fail
          go_quiet (fail)
          go_wp2_with fail
          go_roundw
          case rel => exact ⟨2, by omega, by omega, rfl, step1 hI2 hK2 hZ2 hB2 _ _ _ (by unfold ca; rw [hcn]) hcn⟩
          case measure => simp [intOf]
        · have hcn : cn r.a1 r.p1 k1 = r.p1 := by unfold cn; rw [if_pos h1, if_neg h2]
          go_quiet (fail)
          go_wp2_with fail
          go_roundw
          case rel => exact ⟨2, by omega, by omega, rfl, step1 hI2 hK2 hZ2 hB2 _ _ _ (by unfold ca; rw [hcn]) hcn⟩
          case measure => simp [intOf]
      · have hcn : cn r.a1 r.p1 k1 = (r.a1.size : Int) := by unfold cn; rw [if_neg h1]
        go_quiet (fail)
        go_wp2_with fail
        go_roundw
        case rel => exact ⟨2, by omega, by omega, rfl, step1 hI2 hK2 hZ2 hB2 _ _ _ (by unfold ca; rw [hcn, Int.toNat_natCast]; exact extr_all _) hcn⟩
        case measure => simp [intOf]
    · replace hI : Is w.heap.size (part r k0 k1 k2 k3 2) wr := hI
      have c := hI.c4
      have c' := hI.c5
      replace c : wr.cell? ⟨w.heap.size, 4, none⟩ = some (.string r.a2) := c
      replace c' : wr.cell? ⟨w.heap.size, 5, none⟩ = some (.int .i64 r.p2) := c'
      go_wp2_with fail
      obtain ⟨n0, n1⟩ := D.new_pair wr (.string r.a2) (.int .i64 r.p2) 66
      have hI2 := ((Turn.refl hI).alloc (Obj.cells #[.string r.a2, .int .i64 r.p2] 66)).is
      have hK2 := (Below.heap_alloc wr (Obj.cells #[.string r.a2, .int .i64 r.p2] 66) _ hKl).trans hK
      have hZ2 := (Below.heap_alloc wr (Obj.cells #[.string r.a2, .int .i64 r.p2] 66) _ hZl).trans hZ
      have hB2 := hB.alloc (Nat.le_of_lt (lt_of_block hI)) (Obj.cells #[.string r.a2, .int .i64 r.p2] 66)
      clear kc0 kc1 kc2 kc3 c c' hK hZ hB hI
      generalize wr.alloc (Obj.cells #[.string r.a2, .int .i64 r.p2] 66) = w2 at *
      have kc : w2.cell? ⟨w.heap.size + 1, 2, none⟩ = some (.int .i64 k2) := by simp [World.cell?, hK2]
      have f := hI2.f4
      have c := hI2.c4
      have c' := hI2.c5
      have f' := hI2.f5
      by_cases h1 : k2 < (r.a2.size : Int) - r.p2
      · by_cases h2 : 0 < k2
        · have hcn : cn r.a2 r.p2 k2 = r.p2 + k2 := by unfold cn; rw [if_pos h1, if_pos h2]
          go_quiet (fail)
          go_wp2_with fail
          go_quiet (fail)
          go_wp2_with fail
          go_roundw
          case rel => exact ⟨3, by omega, by omega, rfl, step2 hI2 hK2 hZ2 hB2 _ _ _ (by unfold ca; rw [hcn]) hcn⟩
          case measure => simp [intOf]
        · have hcn : cn r.a2 r.p2 k2 = r.p2 := by unfold cn; rw [if_pos h1, if_neg h2]
          go_quiet (fail)
          go_wp2_with fail
          go_roundw
          case rel => exact ⟨3, by omega, by omega, rfl, step2 hI2 hK2 hZ2 hB2 _ _ _ (by unfold ca; rw [hcn]) hcn⟩
          case measure => simp [intOf]
      · have hcn : cn r.a2 r.p2 k2 = (r.a2.size : Int) := by unfold cn; rw [if_neg h1]
        go_quiet (fail)
        go_wp2_with fail
        go_roundw
        case rel => exact ⟨3, by omega, by omega, rfl, step2 hI2 hK2 hZ2 hB2 _ _ _ (by unfold ca; rw [hcn, Int.toNat_natCast]; exact extr_all _) hcn⟩
        case measure => simp [intOf]
    · replace hI : Is w.heap.size (part r k0 k1 k2 k3 3) wr := hI
      have c := hI.c6
      have c' := hI.c7
      replace c : wr.cell? ⟨w.heap.size, 6, none⟩ = some (.string r.a3) := c
      replace c' : wr.cell? ⟨w.heap.size, 7, none⟩ = some (.int .i64 r.p3) := c'
      go_wp2_with fail
      obtain ⟨n0, n1⟩ := D.new_pair wr (.string r.a3) (.int .i64 r.p3) 66
      have hI2 := ((Turn.refl hI).alloc (Obj.cells #[.string r.a3, .int .i64 r.p3] 66)).is
      have hK2 := (Below.heap_alloc wr (Obj.cells #[.string r.a3, .int .i64 r.p3] 66) _ hKl).trans hK
      have hZ2 := (Below.heap_alloc wr (Obj.cells #[.string r.a3, .int .i64 r.p3] 66) _ hZl).trans hZ
      have hB2 := hB.alloc (Nat.le_of_lt (lt_of_block hI)) (Obj.cells #[.string r.a3, .int .i64 r.p3] 66)
      clear kc0 kc1 kc2 kc3 c c' hK hZ hB hI
      generalize wr.alloc (Obj.cells #[.string r.a3, .int .i64 r.p3] 66) = w2 at *
      have kc : w2.cell? ⟨w.heap.size + 1, 3, none⟩ = some (.int .i64 k3) := by simp [World.cell?, hK2]
      have f := hI2.f6
      have c := hI2.c6
      have c' := hI2.c7
      have f' := hI2.f7
      by_cases h1 : k3 < (r.a3.size : Int) - r.p3
      · by_cases h2 : 0 < k3
        · have hcn : cn r.a3 r.p3 k3 = r.p3 + k3 := by unfold cn; rw [if_pos h1, if_pos h2]
          go_quiet (fail)
          go_wp2_with fail
          go_quiet (fail)
          go_wp2_with fail
          go_roundw
          case rel => exact ⟨4, by omega, by omega, rfl, step3 hI2 hK2 hZ2 hB2 _ _ _ (by unfold ca; rw [hcn]) hcn⟩
          case measure => simp [intOf]
        · have hcn : cn r.a3 r.p3 k3 = r.p3 := by unfold cn; rw [if_pos h1, if_neg h2]
          go_quiet (fail)
          go_wp2_with fail
          go_roundw
          case rel => exact ⟨4, by omega, by omega, rfl, step3 hI2 hK2 hZ2 hB2 _ _ _ (by unfold ca; rw [hcn]) hcn⟩
          case measure => simp [intOf]
      · have hcn : cn r.a3 r.p3 k3 = (r.a3.size : Int) := by unfold cn; rw [if_neg h1]
        go_quiet (fail)
        go_wp2_with fail
        go_roundw
        case rel => exact ⟨4, by omega, by omega, rfl, step3 hI2 hK2 hZ2 hB2 _ _ _ (by unfold ca; rw [hcn, Int.toNat_natCast]; exact extr_all _) hcn⟩
        case measure => simp [intOf]
    · replace hI : Is w.heap.size (part r k0 k1 k2 k3 4) wr := hI
      have c0 := hI.c0
      have c1 := hI.c1
      have c2 := hI.c2
      have c3 := hI.c3
      have c4 := hI.c4
      have c5 := hI.c5
      have c6 := hI.c6
      have c7 := hI.c7
      replace hZ : Is (w.heap.size + 1 + 1) z wr := hZ
      have z0 := hZ.c0
      have f0 := hZ.f0
      have z1 := hZ.c1
      have f1 := hZ.f1
      have z2 := hZ.c2
      have f2 := hZ.f2
      have z3 := hZ.c3
      have f3 := hZ.f3
      have z4 := hZ.c4
      have f4 := hZ.f4
      have z5 := hZ.c5
      have f5 := hZ.f5
      have z6 := hZ.c6
      have f6 := hZ.f6
      have z7 := hZ.c7
      have f7 := hZ.f7
      have z8 := hZ.c8
      have f8 := hZ.f8
      have z9 := hZ.c9
      have f9 := hZ.f9
      go_wp2_with fail
      have hle : w.heap.size ≤ w.heap.size + 1 + 1 := by omega
      refine bodyPost_ret (res1 Try.results66 _ (w.heap.size + 1 + 1) (crash r k0 k1 k2 k3) _ rfl ?_) rfl ⟨rfl, ?_⟩
      · exact (((((((((hZ.p0 _).p1 _).p2 _).p3 _).p4 _).p5 _).p6 _).p7 _).p8 _).p9 _
      · exact (((((((((hB.setCell hle _).setCell hle _).setCell hle _).setCell hle _).setCell hle _).setCell hle _).setCell hle _).setCell hle _).setCell hle _).setCell (by omega) _
end Go.Proofs.Ytejfdiiennnjjaa.R
