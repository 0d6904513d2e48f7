/- What 'does' does: a call of both disks; they answer the same, and stay related. -/
import Derived.Test.YtejfdiiennnjjaaRg
import Derived.Test.YtejfdiiennnjjaaDv
import Derived.Deep.RegionWith
namespace Go.Proofs.Ytejfdiiennnjjaa.R
open Go.RowKit Go.Proofs Go.Proofs.Ytejfdiiennnjjaa Go.Proofs.Ytejfdiiennnjjaa.D
set_option linter.unusedVariables false

theorem ten {w : World} {b c : Nat} (hc : c ≠ b) (v0 v1 v2 v3 v4 v5 v6 v7 v8 v9 : Value) :
    ((((((((((w.setCell ⟨b, 0, none⟩ v0).setCell ⟨b, 1, none⟩ v1).setCell ⟨b, 2, none⟩ v2).setCell ⟨b, 3, none⟩ v3).setCell ⟨b, 4, none⟩ v4).setCell ⟨b, 5, none⟩ v5).setCell ⟨b, 6, none⟩ v6).setCell ⟨b, 7, none⟩ v7).setCell ⟨b, 8, none⟩ v8).setCell ⟨b, 9, none⟩ v9).heap[c]? = w.heap[c]? := by
  rw [Below.heap_setCell _ _ _ _ (show c ≠ (⟨b, 9, none⟩ : Addr).block from hc), Below.heap_setCell _ _ _ _ (show c ≠ (⟨b, 8, none⟩ : Addr).block from hc), Below.heap_setCell _ _ _ _ (show c ≠ (⟨b, 7, none⟩ : Addr).block from hc), Below.heap_setCell _ _ _ _ (show c ≠ (⟨b, 6, none⟩ : Addr).block from hc), Below.heap_setCell _ _ _ _ (show c ≠ (⟨b, 5, none⟩ : Addr).block from hc), Below.heap_setCell _ _ _ _ (show c ≠ (⟨b, 4, none⟩ : Addr).block from hc), Below.heap_setCell _ _ _ _ (show c ≠ (⟨b, 3, none⟩ : Addr).block from hc), Below.heap_setCell _ _ _ _ (show c ≠ (⟨b, 2, none⟩ : Addr).block from hc), Below.heap_setCell _ _ _ _ (show c ≠ (⟨b, 1, none⟩ : Addr).block from hc), Below.heap_setCell _ _ _ _ (show c ≠ (⟨b, 0, none⟩ : Addr).block from hc)]
/-- A whole disk into a block. -/
theorem Turn.all {b : Nat} {z r : Rf} {w : World} (h : Is b z w) : Turn b r w ((((((((((w.setCell ⟨b, 0, none⟩ (.string r.a0)).setCell ⟨b, 1, none⟩ (.int .i64 r.p0)).setCell ⟨b, 2, none⟩ (.string r.a1)).setCell ⟨b, 3, none⟩ (.int .i64 r.p1)).setCell ⟨b, 4, none⟩ (.string r.a2)).setCell ⟨b, 5, none⟩ (.int .i64 r.p2)).setCell ⟨b, 6, none⟩ (.string r.a3)).setCell ⟨b, 7, none⟩ (.int .i64 r.p3)).setCell ⟨b, 8, none⟩ (.int .i64 r.limit)).setCell ⟨b, 9, none⟩ (.bool r.gone)) :=
  (((((((((((Turn.refl h).put (h.p0 _)).put ((h.p0 _).p1 _)).put (((h.p0 _).p1 _).p2 _)).put ((((h.p0 _).p1 _).p2 _).p3 _)).put (((((h.p0 _).p1 _).p2 _).p3 _).p4 _)).put ((((((h.p0 _).p1 _).p2 _).p3 _).p4 _).p5 _)).put (((((((h.p0 _).p1 _).p2 _).p3 _).p4 _).p5 _).p6 _)).put ((((((((h.p0 _).p1 _).p2 _).p3 _).p4 _).p5 _).p6 _).p7 _)).put (((((((((h.p0 _).p1 _).p2 _).p3 _).p4 _).p5 _).p6 _).p7 _).p8 _)).put ((((((((((h.p0 _).p1 _).p2 _).p3 _).p4 _).p5 _).p6 _).p7 _).p8 _).p9 _))

/-- Both disks behind a call: nothing else has changed. -/
structure Both (b c : Nat) (d : Dk) (w w' : World) : Prop where
  dk : D.Is b d w'
  rf : Is c (toR d) w'
  others : ∀ k, k < w.heap.size → k ≠ b → k ≠ c → w'.heap[k]? = w.heap[k]?
  size : w.heap.size ≤ w'.heap.size
  below : ∀ B, B ≤ b → B ≤ c → Below B w w'
/-- Behind the first two statements: the act in a block, and a copy of the document's disk in the next. -/
structure At0 (b c : Nat) (d : Dk) (w : World) (o : Obj) (W : World) : Prop where
  act : W.heap[w.heap.size]? = some o
  nx : Is (w.heap.size + 1) (toR d) W
  dk : D.Is b d W
  rf : Is c (toR d) W
  both : Both b c d w W
theorem at0 {b c : Nat} {d : Dk} {w : World} (hD : D.Is b d w) (hR : Is c (toR d) w) (o : Obj) (W : World) (e : W = (w.alloc o).alloc (.cells (toR d).cells 69)) : At0 b c d w o W := by
  have TD := ((D.Turn.refl hD).alloc o).alloc (.cells (toR d).cells 69)
  have TR := ((Turn.refl hR).alloc o).alloc (.cells (toR d).cells 69)
  rw [← e] at TD TR
  refine ⟨?_, ?_, TD.is, TR.is, ⟨TD.is, TR.is, fun k hk hb _ => TD.others k hk hb, TD.size, fun B hB _ => TD.below B hB⟩⟩
  · rw [e, Below.heap_alloc _ _ _ (by simp)]; exact heap_alloc_new _ _
  · rw [e]; exact at2 _ _ _
/-- Behind the document's call and the copy's store. -/
structure Mid (b c : Nat) (d d' : Dk) (w W2 : World) (o : Obj) : Prop where
  act : W2.heap[w.heap.size]? = some o
  nx : Is (w.heap.size + 1) (toR d') W2
  dk : D.Is b d W2
  rf : Is c (toR d) W2
  both : ∀ k, k < w.heap.size → W2.heap[k]? = w.heap[k]?
  size : w.heap.size + 1 < W2.heap.size
  below : ∀ B, B ≤ b → B ≤ c → Below B w W2
theorem undrew {B : Nat} {w w' : World} (h : Below B w.drew w') : Below B w w' := ⟨h.os, h.tape, h.output, h.size, h.block⟩
theorem mid {b c : Nat} {d d' : Dk} {w W0 w1 W2 : World} {o : Obj} (hb : b < w.heap.size) (hc : c < w.heap.size) (S : At0 b c d w o W0) (bel : Below W0.drew.heap.size W0.drew w1) (hW : ∀ k, k < w.heap.size → W0.heap[k]? = w.heap[k]?) (X : Turn (w.heap.size + 1) (toR d') w1 W2) : Mid b c d d' w W2 o := by
  have hs := lt_of_block S.nx
  have g : ∀ k, k < w.heap.size → W2.heap[k]? = W0.heap[k]? := fun k hk => (X.others k (Nat.lt_of_lt_of_le (show k < W0.heap.size by omega) bel.size) (by omega)).trans (bel.block k (show k < W0.heap.size by omega))
  exact ⟨(X.others _ (Nat.lt_of_lt_of_le (show w.heap.size < W0.heap.size by omega) bel.size) (by omega)).trans ((bel.block _ (show w.heap.size < W0.heap.size by omega)).trans S.act), X.is, (g b hb).trans S.dk, (g c hc).trans S.rf, fun k hk => (g k hk).trans (hW k hk), lt_of_block X.is, fun B hB hC => ((S.both.below B hB hC).trans (undrew (bel.mono (show B ≤ W0.heap.size by omega)))).trans (X.below B (by omega))⟩
theorem mid_new {b c : Nat} {d d' : Dk} {w : World} (hD : D.Is b d w) (hR : Is c (toR d) w) (o : Obj) (W : World) (e : W = (w.alloc o).alloc (.cells (toR d').cells 69)) : Mid b c d d' w W o := by
  have TD := ((D.Turn.refl hD).alloc o).alloc (.cells (toR d').cells 69)
  have TR := ((Turn.refl hR).alloc o).alloc (.cells (toR d').cells 69)
  rw [← e] at TD TR
  refine ⟨?_, ?_, TD.is, TR.is, fun k hk => ?_, ?_, fun B hB _ => TD.below B hB⟩
  · rw [e, Below.heap_alloc _ _ _ (by simp)]; exact heap_alloc_new _ _
  · rw [e]; exact at2 _ _ _
  · rw [e, Below.heap_alloc _ _ _ (by simp; omega), Below.heap_alloc _ _ _ hk]
  · rw [e]; simp
theorem both_end {b c : Nat} {d d' : Dk} {w W2 w3 W4 : World} (hb : b < w.heap.size) (hc : c < w.heap.size) (hbc : b ≠ c) {o : Obj} (M : Mid b c d d' w W2 o) (T : D.Turn b d' W2 w3) (Y : Turn c (toR d') w3 W4) : Both b c d' w W4 :=
  ⟨(Y.others b (lt_of_block T.is) hbc).trans T.is, Y.is, fun k hk h1 h2 => (Y.others k (by have := T.size; have := M.size; omega) h2).trans ((T.others k (by have := M.size; omega) h1).trans (M.both k hk)), by have := M.size; have := T.size; have := Y.size; omega,
    fun B hB hC => ((M.below B hB hC).trans (T.below B hB)).trans (Y.below B hC)⟩
theorem after {b c : Nat} {d d' : Dk} {w W2 w3 : World} (hb : b < w.heap.size) (hc : c < w.heap.size) (hbc : b ≠ c) {o : Obj} (M : Mid b c d d' w W2 o) (T : D.Turn b d' W2 w3) : Is (w.heap.size + 1) (toR d') w3 ∧ Is c (toR d) w3 :=
  ⟨(T.others _ M.size (by omega)).trans M.nx, (T.others c (by have := M.size; omega) (fun e => hbc e.symm)).trans M.rf⟩

set_option maxRecDepth 100000 in
set_option maxHeartbeats 16000000 in
theorem does_app (b c : Nat) (d : Dk) (a : Ac) (w : World) (hD : D.Is b d w) (hR : Is c (toR d) w) (hbc : b ≠ c) (hm : d.made = true) (hf : d.Fits) (hk : a.kind = 0) :
    Calls Try.prog 39 #[.pointer (some ⟨b, 0, none⟩), .pointer (some ⟨c, 0, none⟩), .agg (actCells a.kind a.file a.text a.n a.k0 a.k1 a.k2 a.k3)] w fun e w' => e = .returned (.bool true) ∧ Both b c (appD d a.file a.text) w w' := by
  obtain ⟨k, f, s, n, k0, k1, k2, k3⟩ := a
  dsimp only at *
  subst hk
  unfold actCells
  have TR := ((Turn.refl hR).alloc (Obj.cells #[.int .i64 0, .int .i64 f, .string s, .int .i64 n, .int .i64 k0, .int .i64 k1, .int .i64 k2, .int .i64 k3] 61))
  have c0 := TR.is.c0
  have c1 := TR.is.c1
  have c2 := TR.is.c2
  have c3 := TR.is.c3
  have c4 := TR.is.c4
  have c5 := TR.is.c5
  have c6 := TR.is.c6
  have c7 := TR.is.c7
  have c8 := TR.is.c8
  have c9 := TR.is.c9
  go_enter Try.func39, Try.ntmps39
  go_wp2_with fail
  generalize hW : (w.alloc (Obj.cells #[.int .i64 0, .int .i64 f, .string s, .int .i64 n, .int .i64 k0, .int .i64 k1, .int .i64 k2, .int .i64 k3] 61)).alloc (Obj.cells #[.string (toR d).a0, .int .i64 (toR d).p0, .string (toR d).a1, .int .i64 (toR d).p1, .string (toR d).a2, .int .i64 (toR d).p2, .string (toR d).a3, .int .i64 (toR d).p3, .int .i64 (toR d).limit, .bool (toR d).gone] 69) = W0
  have S := at0 hD hR _ W0 hW.symm
  have hWk : ∀ k, k < w.heap.size → W0.heap[k]? = w.heap[k]? := fun k hk => by rw [← hW, Below.heap_alloc _ _ _ (by simp; omega), Below.heap_alloc _ _ _ hk]
  have hb := lt_of_block hD
  have hc := lt_of_block hR
  clear hW c0 c1 c2 c3 c4 c5 c6 c7 c8 c9 TR
  have hA := S.act
  have hN := S.nx
  have hD0 := S.dk
  have hR0 := S.rf
  have c0 := hR0.c0
  have c1 := hR0.c1
  have c2 := hR0.c2
  have c3 := hR0.c3
  have c4 := hR0.c4
  have c5 := hR0.c5
  have c6 := hR0.c6
  have c7 := hR0.c7
  have c8 := hR0.c8
  have c9 := hR0.c9
  have a1 : W0.cell? ⟨w.heap.size, 1, none⟩ = some (.int .i64 f) := by simp [World.cell?, hA]
  have a2 : W0.cell? ⟨w.heap.size, 2, none⟩ = some (.string s) := by simp [World.cell?, hA]
  have a3 : W0.cell? ⟨w.heap.size, 3, none⟩ = some (.int .i64 n) := by simp [World.cell?, hA]
  have a4 : W0.cell? ⟨w.heap.size, 4, none⟩ = some (.int .i64 k0) := by simp [World.cell?, hA]
  have a5 : W0.cell? ⟨w.heap.size, 5, none⟩ = some (.int .i64 k1) := by simp [World.cell?, hA]
  have a6 : W0.cell? ⟨w.heap.size, 6, none⟩ = some (.int .i64 k2) := by simp [World.cell?, hA]
  have a7 : W0.cell? ⟨w.heap.size, 7, none⟩ = some (.int .i64 k3) := by simp [World.cell?, hA]
  have hNl := lt_of_block hN
  go_region_with (go_at_call 63; refine (Append_any (toR d) f s _ (toR_fits hf)).mono ?_; rintro e w1 ⟨rfl, bel⟩; have hN1 : Is (w.heap.size + 1) (toR d) w1 := (bel.block _ hNl).trans hN; rw [app_toR hm f s]; unfold Rf.cells; have f0 := hN1.f0; have z0 := hN1.c0; have f1 := hN1.f1; have z1 := hN1.c1; have f2 := hN1.f2; have z2 := hN1.c2; have f3 := hN1.f3; have z3 := hN1.c3; have f4 := hN1.f4; have z4 := hN1.c4; have f5 := hN1.f5; have z5 := hN1.c5; have f6 := hN1.f6; have z6 := hN1.c6; have f7 := hN1.f7; have z7 := hN1.c7; have f8 := hN1.f8; have z8 := hN1.c8; have f9 := hN1.f9; have z9 := hN1.c9)
  all_goals
    have M := mid hb hc S bel hWk (Turn.all (r := toR (appD d f s)) hN1)
    generalize World.setCell (World.setCell (World.setCell (World.setCell (World.setCell (World.setCell (World.setCell (World.setCell (World.setCell (World.setCell (w1) ⟨w.heap.size + 1, 0, none⟩ (.string (toR (appD d f s)).a0)) ⟨w.heap.size + 1, 1, none⟩ (.int .i64 (toR (appD d f s)).p0)) ⟨w.heap.size + 1, 2, none⟩ (.string (toR (appD d f s)).a1)) ⟨w.heap.size + 1, 3, none⟩ (.int .i64 (toR (appD d f s)).p1)) ⟨w.heap.size + 1, 4, none⟩ (.string (toR (appD d f s)).a2)) ⟨w.heap.size + 1, 5, none⟩ (.int .i64 (toR (appD d f s)).p2)) ⟨w.heap.size + 1, 6, none⟩ (.string (toR (appD d f s)).a3)) ⟨w.heap.size + 1, 7, none⟩ (.int .i64 (toR (appD d f s)).p3)) ⟨w.heap.size + 1, 8, none⟩ (.int .i64 (toR (appD d f s)).limit)) ⟨w.heap.size + 1, 9, none⟩ (.bool (toR (appD d f s)).gone) = W2 at M ⊢
    clear hN1 bel f0 z0 c0 f1 z1 c1 f2 z2 c2 f3 z3 c3 f4 z4 c4 f5 z5 c5 f6 z6 c6 f7 z7 c7 f8 z8 c8 f9 z9 c9 a1 a2 a3 a4 a5 a6 a7 hA hN hD0 hR0
    have hA := M.act
    have a1 : W2.cell? ⟨w.heap.size, 1, none⟩ = some (.int .i64 f) := by simp [World.cell?, hA]
    have a2 : W2.cell? ⟨w.heap.size, 2, none⟩ = some (.string s) := by simp [World.cell?, hA]
    have a3 : W2.cell? ⟨w.heap.size, 3, none⟩ = some (.int .i64 n) := by simp [World.cell?, hA]
    have a4 : W2.cell? ⟨w.heap.size, 4, none⟩ = some (.int .i64 k0) := by simp [World.cell?, hA]
    have a5 : W2.cell? ⟨w.heap.size, 5, none⟩ = some (.int .i64 k1) := by simp [World.cell?, hA]
    have a6 : W2.cell? ⟨w.heap.size, 6, none⟩ = some (.int .i64 k2) := by simp [World.cell?, hA]
    have a7 : W2.cell? ⟨w.heap.size, 7, none⟩ = some (.int .i64 k3) := by simp [World.cell?, hA]
    go_wp2_with fail
    refine (D.Append_any b d f s _ M.dk hf).mono ?_; rintro e w3 ⟨rfl, T3⟩
    obtain ⟨hN3, hR3⟩ := after hb hc hbc M T3
    have E := fun W4 => both_end (W4 := W4) hb hc hbc M T3
    clear M S
    have c0 := hN3.c0
    have f0 := hR3.f0
    have z0 := hR3.c0
    have c1 := hN3.c1
    have f1 := hR3.f1
    have z1 := hR3.c1
    have c2 := hN3.c2
    have f2 := hR3.f2
    have z2 := hR3.c2
    have c3 := hN3.c3
    have f3 := hR3.f3
    have z3 := hR3.c3
    have c4 := hN3.c4
    have f4 := hR3.f4
    have z4 := hR3.c4
    have c5 := hN3.c5
    have f5 := hR3.f5
    have z5 := hR3.c5
    have c6 := hN3.c6
    have f6 := hR3.f6
    have z6 := hR3.c6
    have c7 := hN3.c7
    have f7 := hR3.f7
    have z7 := hR3.c7
    have c8 := hN3.c8
    have f8 := hR3.f8
    have z8 := hR3.c8
    have c9 := hN3.c9
    have f9 := hR3.f9
    have z9 := hR3.c9
    clear T3
    go_wp2_with fail
    go_ret
    exact ⟨rfl, E _ (Turn.all hR3)⟩

set_option maxRecDepth 100000 in
set_option maxHeartbeats 16000000 in
theorem does_syn (b c : Nat) (d : Dk) (a : Ac) (w : World) (hD : D.Is b d w) (hR : Is c (toR d) w) (hbc : b ≠ c) (hm : d.made = true) (hf : d.Fits) (hk : a.kind = 1) :
    Calls Try.prog 39 #[.pointer (some ⟨b, 0, none⟩), .pointer (some ⟨c, 0, none⟩), .agg (actCells a.kind a.file a.text a.n a.k0 a.k1 a.k2 a.k3)] w fun e w' => e = .returned (.bool true) ∧ Both b c (synD d a.file) w w' := by
  obtain ⟨k, f, s, n, k0, k1, k2, k3⟩ := a
  dsimp only at *
  subst hk
  unfold actCells
  have TR := ((Turn.refl hR).alloc (Obj.cells #[.int .i64 1, .int .i64 f, .string s, .int .i64 n, .int .i64 k0, .int .i64 k1, .int .i64 k2, .int .i64 k3] 61))
  have c0 := TR.is.c0
  have c1 := TR.is.c1
  have c2 := TR.is.c2
  have c3 := TR.is.c3
  have c4 := TR.is.c4
  have c5 := TR.is.c5
  have c6 := TR.is.c6
  have c7 := TR.is.c7
  have c8 := TR.is.c8
  have c9 := TR.is.c9
  go_enter Try.func39, Try.ntmps39
  go_wp2_with fail
  generalize hW : (w.alloc (Obj.cells #[.int .i64 1, .int .i64 f, .string s, .int .i64 n, .int .i64 k0, .int .i64 k1, .int .i64 k2, .int .i64 k3] 61)).alloc (Obj.cells #[.string (toR d).a0, .int .i64 (toR d).p0, .string (toR d).a1, .int .i64 (toR d).p1, .string (toR d).a2, .int .i64 (toR d).p2, .string (toR d).a3, .int .i64 (toR d).p3, .int .i64 (toR d).limit, .bool (toR d).gone] 69) = W0
  have S := at0 hD hR _ W0 hW.symm
  have hWk : ∀ k, k < w.heap.size → W0.heap[k]? = w.heap[k]? := fun k hk => by rw [← hW, Below.heap_alloc _ _ _ (by simp; omega), Below.heap_alloc _ _ _ hk]
  have hb := lt_of_block hD
  have hc := lt_of_block hR
  clear hW c0 c1 c2 c3 c4 c5 c6 c7 c8 c9 TR
  have hA := S.act
  have hN := S.nx
  have hD0 := S.dk
  have hR0 := S.rf
  have c0 := hR0.c0
  have c1 := hR0.c1
  have c2 := hR0.c2
  have c3 := hR0.c3
  have c4 := hR0.c4
  have c5 := hR0.c5
  have c6 := hR0.c6
  have c7 := hR0.c7
  have c8 := hR0.c8
  have c9 := hR0.c9
  have a1 : W0.cell? ⟨w.heap.size, 1, none⟩ = some (.int .i64 f) := by simp [World.cell?, hA]
  have a2 : W0.cell? ⟨w.heap.size, 2, none⟩ = some (.string s) := by simp [World.cell?, hA]
  have a3 : W0.cell? ⟨w.heap.size, 3, none⟩ = some (.int .i64 n) := by simp [World.cell?, hA]
  have a4 : W0.cell? ⟨w.heap.size, 4, none⟩ = some (.int .i64 k0) := by simp [World.cell?, hA]
  have a5 : W0.cell? ⟨w.heap.size, 5, none⟩ = some (.int .i64 k1) := by simp [World.cell?, hA]
  have a6 : W0.cell? ⟨w.heap.size, 6, none⟩ = some (.int .i64 k2) := by simp [World.cell?, hA]
  have a7 : W0.cell? ⟨w.heap.size, 7, none⟩ = some (.int .i64 k3) := by simp [World.cell?, hA]
  have hNl := lt_of_block hN
  go_region_with (go_at_call 64; refine (Sync_any (toR d) f _ (toR_fits hf)).mono ?_; rintro e w1 ⟨rfl, bel⟩; have hN1 : Is (w.heap.size + 1) (toR d) w1 := (bel.block _ hNl).trans hN; rw [syn_toR hm f]; unfold Rf.cells; have f0 := hN1.f0; have z0 := hN1.c0; have f1 := hN1.f1; have z1 := hN1.c1; have f2 := hN1.f2; have z2 := hN1.c2; have f3 := hN1.f3; have z3 := hN1.c3; have f4 := hN1.f4; have z4 := hN1.c4; have f5 := hN1.f5; have z5 := hN1.c5; have f6 := hN1.f6; have z6 := hN1.c6; have f7 := hN1.f7; have z7 := hN1.c7; have f8 := hN1.f8; have z8 := hN1.c8; have f9 := hN1.f9; have z9 := hN1.c9)
  all_goals
    have M := mid hb hc S bel hWk (Turn.all (r := toR (synD d f)) hN1)
    generalize World.setCell (World.setCell (World.setCell (World.setCell (World.setCell (World.setCell (World.setCell (World.setCell (World.setCell (World.setCell (w1) ⟨w.heap.size + 1, 0, none⟩ (.string (toR (synD d f)).a0)) ⟨w.heap.size + 1, 1, none⟩ (.int .i64 (toR (synD d f)).p0)) ⟨w.heap.size + 1, 2, none⟩ (.string (toR (synD d f)).a1)) ⟨w.heap.size + 1, 3, none⟩ (.int .i64 (toR (synD d f)).p1)) ⟨w.heap.size + 1, 4, none⟩ (.string (toR (synD d f)).a2)) ⟨w.heap.size + 1, 5, none⟩ (.int .i64 (toR (synD d f)).p2)) ⟨w.heap.size + 1, 6, none⟩ (.string (toR (synD d f)).a3)) ⟨w.heap.size + 1, 7, none⟩ (.int .i64 (toR (synD d f)).p3)) ⟨w.heap.size + 1, 8, none⟩ (.int .i64 (toR (synD d f)).limit)) ⟨w.heap.size + 1, 9, none⟩ (.bool (toR (synD d f)).gone) = W2 at M ⊢
    clear hN1 bel f0 z0 c0 f1 z1 c1 f2 z2 c2 f3 z3 c3 f4 z4 c4 f5 z5 c5 f6 z6 c6 f7 z7 c7 f8 z8 c8 f9 z9 c9 a1 a2 a3 a4 a5 a6 a7 hA hN hD0 hR0
    have hA := M.act
    have a1 : W2.cell? ⟨w.heap.size, 1, none⟩ = some (.int .i64 f) := by simp [World.cell?, hA]
    have a2 : W2.cell? ⟨w.heap.size, 2, none⟩ = some (.string s) := by simp [World.cell?, hA]
    have a3 : W2.cell? ⟨w.heap.size, 3, none⟩ = some (.int .i64 n) := by simp [World.cell?, hA]
    have a4 : W2.cell? ⟨w.heap.size, 4, none⟩ = some (.int .i64 k0) := by simp [World.cell?, hA]
    have a5 : W2.cell? ⟨w.heap.size, 5, none⟩ = some (.int .i64 k1) := by simp [World.cell?, hA]
    have a6 : W2.cell? ⟨w.heap.size, 6, none⟩ = some (.int .i64 k2) := by simp [World.cell?, hA]
    have a7 : W2.cell? ⟨w.heap.size, 7, none⟩ = some (.int .i64 k3) := by simp [World.cell?, hA]
    go_wp2_with fail
    refine (D.Sync_any b d f _ M.dk hf).mono ?_; rintro e w3 ⟨rfl, T3⟩
    obtain ⟨hN3, hR3⟩ := after hb hc hbc M T3
    have E := fun W4 => both_end (W4 := W4) hb hc hbc M T3
    clear M S
    have c0 := hN3.c0
    have f0 := hR3.f0
    have z0 := hR3.c0
    have c1 := hN3.c1
    have f1 := hR3.f1
    have z1 := hR3.c1
    have c2 := hN3.c2
    have f2 := hR3.f2
    have z2 := hR3.c2
    have c3 := hN3.c3
    have f3 := hR3.f3
    have z3 := hR3.c3
    have c4 := hN3.c4
    have f4 := hR3.f4
    have z4 := hR3.c4
    have c5 := hN3.c5
    have f5 := hR3.f5
    have z5 := hR3.c5
    have c6 := hN3.c6
    have f6 := hR3.f6
    have z6 := hR3.c6
    have c7 := hN3.c7
    have f7 := hR3.f7
    have z7 := hR3.c7
    have c8 := hN3.c8
    have f8 := hR3.f8
    have z8 := hR3.c8
    have c9 := hN3.c9
    have f9 := hR3.f9
    have z9 := hR3.c9
    clear T3
    go_wp2_with fail
    go_ret
    exact ⟨rfl, E _ (Turn.all hR3)⟩

set_option maxRecDepth 100000 in
set_option maxHeartbeats 16000000 in
theorem does_cut (b c : Nat) (d : Dk) (a : Ac) (w : World) (hD : D.Is b d w) (hR : Is c (toR d) w) (hbc : b ≠ c) (hm : d.made = true) (hf : d.Fits) (hk : a.kind = 2) :
    Calls Try.prog 39 #[.pointer (some ⟨b, 0, none⟩), .pointer (some ⟨c, 0, none⟩), .agg (actCells a.kind a.file a.text a.n a.k0 a.k1 a.k2 a.k3)] w fun e w' => e = .returned (.bool true) ∧ Both b c (cutD d a.file a.n) w w' := by
  obtain ⟨k, f, s, n, k0, k1, k2, k3⟩ := a
  dsimp only at *
  subst hk
  unfold actCells
  have TR := ((Turn.refl hR).alloc (Obj.cells #[.int .i64 2, .int .i64 f, .string s, .int .i64 n, .int .i64 k0, .int .i64 k1, .int .i64 k2, .int .i64 k3] 61))
  have c0 := TR.is.c0
  have c1 := TR.is.c1
  have c2 := TR.is.c2
  have c3 := TR.is.c3
  have c4 := TR.is.c4
  have c5 := TR.is.c5
  have c6 := TR.is.c6
  have c7 := TR.is.c7
  have c8 := TR.is.c8
  have c9 := TR.is.c9
  go_enter Try.func39, Try.ntmps39
  go_wp2_with fail
  generalize hW : (w.alloc (Obj.cells #[.int .i64 2, .int .i64 f, .string s, .int .i64 n, .int .i64 k0, .int .i64 k1, .int .i64 k2, .int .i64 k3] 61)).alloc (Obj.cells #[.string (toR d).a0, .int .i64 (toR d).p0, .string (toR d).a1, .int .i64 (toR d).p1, .string (toR d).a2, .int .i64 (toR d).p2, .string (toR d).a3, .int .i64 (toR d).p3, .int .i64 (toR d).limit, .bool (toR d).gone] 69) = W0
  have S := at0 hD hR _ W0 hW.symm
  have hWk : ∀ k, k < w.heap.size → W0.heap[k]? = w.heap[k]? := fun k hk => by rw [← hW, Below.heap_alloc _ _ _ (by simp; omega), Below.heap_alloc _ _ _ hk]
  have hb := lt_of_block hD
  have hc := lt_of_block hR
  clear hW c0 c1 c2 c3 c4 c5 c6 c7 c8 c9 TR
  have hA := S.act
  have hN := S.nx
  have hD0 := S.dk
  have hR0 := S.rf
  have c0 := hR0.c0
  have c1 := hR0.c1
  have c2 := hR0.c2
  have c3 := hR0.c3
  have c4 := hR0.c4
  have c5 := hR0.c5
  have c6 := hR0.c6
  have c7 := hR0.c7
  have c8 := hR0.c8
  have c9 := hR0.c9
  have a1 : W0.cell? ⟨w.heap.size, 1, none⟩ = some (.int .i64 f) := by simp [World.cell?, hA]
  have a2 : W0.cell? ⟨w.heap.size, 2, none⟩ = some (.string s) := by simp [World.cell?, hA]
  have a3 : W0.cell? ⟨w.heap.size, 3, none⟩ = some (.int .i64 n) := by simp [World.cell?, hA]
  have a4 : W0.cell? ⟨w.heap.size, 4, none⟩ = some (.int .i64 k0) := by simp [World.cell?, hA]
  have a5 : W0.cell? ⟨w.heap.size, 5, none⟩ = some (.int .i64 k1) := by simp [World.cell?, hA]
  have a6 : W0.cell? ⟨w.heap.size, 6, none⟩ = some (.int .i64 k2) := by simp [World.cell?, hA]
  have a7 : W0.cell? ⟨w.heap.size, 7, none⟩ = some (.int .i64 k3) := by simp [World.cell?, hA]
  have hNl := lt_of_block hN
  go_region_with (go_at_call 65; refine (Cut_any (toR d) f n _ (toR_fits hf)).mono ?_; rintro e w1 ⟨rfl, bel⟩; have hN1 : Is (w.heap.size + 1) (toR d) w1 := (bel.block _ hNl).trans hN; rw [cut_toR hm f n]; unfold Rf.cells; have f0 := hN1.f0; have z0 := hN1.c0; have f1 := hN1.f1; have z1 := hN1.c1; have f2 := hN1.f2; have z2 := hN1.c2; have f3 := hN1.f3; have z3 := hN1.c3; have f4 := hN1.f4; have z4 := hN1.c4; have f5 := hN1.f5; have z5 := hN1.c5; have f6 := hN1.f6; have z6 := hN1.c6; have f7 := hN1.f7; have z7 := hN1.c7; have f8 := hN1.f8; have z8 := hN1.c8; have f9 := hN1.f9; have z9 := hN1.c9)
  all_goals
    have M := mid hb hc S bel hWk (Turn.all (r := toR (cutD d f n)) hN1)
    generalize World.setCell (World.setCell (World.setCell (World.setCell (World.setCell (World.setCell (World.setCell (World.setCell (World.setCell (World.setCell (w1) ⟨w.heap.size + 1, 0, none⟩ (.string (toR (cutD d f n)).a0)) ⟨w.heap.size + 1, 1, none⟩ (.int .i64 (toR (cutD d f n)).p0)) ⟨w.heap.size + 1, 2, none⟩ (.string (toR (cutD d f n)).a1)) ⟨w.heap.size + 1, 3, none⟩ (.int .i64 (toR (cutD d f n)).p1)) ⟨w.heap.size + 1, 4, none⟩ (.string (toR (cutD d f n)).a2)) ⟨w.heap.size + 1, 5, none⟩ (.int .i64 (toR (cutD d f n)).p2)) ⟨w.heap.size + 1, 6, none⟩ (.string (toR (cutD d f n)).a3)) ⟨w.heap.size + 1, 7, none⟩ (.int .i64 (toR (cutD d f n)).p3)) ⟨w.heap.size + 1, 8, none⟩ (.int .i64 (toR (cutD d f n)).limit)) ⟨w.heap.size + 1, 9, none⟩ (.bool (toR (cutD d f n)).gone) = W2 at M ⊢
    clear hN1 bel f0 z0 c0 f1 z1 c1 f2 z2 c2 f3 z3 c3 f4 z4 c4 f5 z5 c5 f6 z6 c6 f7 z7 c7 f8 z8 c8 f9 z9 c9 a1 a2 a3 a4 a5 a6 a7 hA hN hD0 hR0
    have hA := M.act
    have a1 : W2.cell? ⟨w.heap.size, 1, none⟩ = some (.int .i64 f) := by simp [World.cell?, hA]
    have a2 : W2.cell? ⟨w.heap.size, 2, none⟩ = some (.string s) := by simp [World.cell?, hA]
    have a3 : W2.cell? ⟨w.heap.size, 3, none⟩ = some (.int .i64 n) := by simp [World.cell?, hA]
    have a4 : W2.cell? ⟨w.heap.size, 4, none⟩ = some (.int .i64 k0) := by simp [World.cell?, hA]
    have a5 : W2.cell? ⟨w.heap.size, 5, none⟩ = some (.int .i64 k1) := by simp [World.cell?, hA]
    have a6 : W2.cell? ⟨w.heap.size, 6, none⟩ = some (.int .i64 k2) := by simp [World.cell?, hA]
    have a7 : W2.cell? ⟨w.heap.size, 7, none⟩ = some (.int .i64 k3) := by simp [World.cell?, hA]
    go_wp2_with fail
    refine (D.Cut_any b d f n _ M.dk hf).mono ?_; rintro e w3 ⟨rfl, T3⟩
    obtain ⟨hN3, hR3⟩ := after hb hc hbc M T3
    have E := fun W4 => both_end (W4 := W4) hb hc hbc M T3
    clear M S
    have c0 := hN3.c0
    have f0 := hR3.f0
    have z0 := hR3.c0
    have c1 := hN3.c1
    have f1 := hR3.f1
    have z1 := hR3.c1
    have c2 := hN3.c2
    have f2 := hR3.f2
    have z2 := hR3.c2
    have c3 := hN3.c3
    have f3 := hR3.f3
    have z3 := hR3.c3
    have c4 := hN3.c4
    have f4 := hR3.f4
    have z4 := hR3.c4
    have c5 := hN3.c5
    have f5 := hR3.f5
    have z5 := hR3.c5
    have c6 := hN3.c6
    have f6 := hR3.f6
    have z6 := hR3.c6
    have c7 := hN3.c7
    have f7 := hR3.f7
    have z7 := hR3.c7
    have c8 := hN3.c8
    have f8 := hR3.f8
    have z8 := hR3.c8
    have c9 := hN3.c9
    have f9 := hR3.f9
    have z9 := hR3.c9
    clear T3
    go_wp2_with fail
    go_ret
    exact ⟨rfl, E _ (Turn.all hR3)⟩

set_option maxRecDepth 100000 in
set_option maxHeartbeats 16000000 in
theorem does_lim (b c : Nat) (d : Dk) (a : Ac) (w : World) (hD : D.Is b d w) (hR : Is c (toR d) w) (hbc : b ≠ c) (hm : d.made = true) (hf : d.Fits) (hk : a.kind = 3) :
    Calls Try.prog 39 #[.pointer (some ⟨b, 0, none⟩), .pointer (some ⟨c, 0, none⟩), .agg (actCells a.kind a.file a.text a.n a.k0 a.k1 a.k2 a.k3)] w fun e w' => e = .returned (.bool true) ∧ Both b c ({ d with left := a.n }) w w' := by
  obtain ⟨k, f, s, n, k0, k1, k2, k3⟩ := a
  dsimp only at *
  subst hk
  unfold actCells
  have TR := ((Turn.refl hR).alloc (Obj.cells #[.int .i64 3, .int .i64 f, .string s, .int .i64 n, .int .i64 k0, .int .i64 k1, .int .i64 k2, .int .i64 k3] 61))
  have c0 := TR.is.c0
  have c1 := TR.is.c1
  have c2 := TR.is.c2
  have c3 := TR.is.c3
  have c4 := TR.is.c4
  have c5 := TR.is.c5
  have c6 := TR.is.c6
  have c7 := TR.is.c7
  have c8 := TR.is.c8
  have c9 := TR.is.c9
  go_enter Try.func39, Try.ntmps39
  go_wp2_with fail
  generalize hW : (w.alloc (Obj.cells #[.int .i64 3, .int .i64 f, .string s, .int .i64 n, .int .i64 k0, .int .i64 k1, .int .i64 k2, .int .i64 k3] 61)).alloc (Obj.cells #[.string (toR d).a0, .int .i64 (toR d).p0, .string (toR d).a1, .int .i64 (toR d).p1, .string (toR d).a2, .int .i64 (toR d).p2, .string (toR d).a3, .int .i64 (toR d).p3, .int .i64 n, .bool (toR d).gone] 69) = W2
  have M := mid_new (d' := { d with left := n }) hD hR _ W2 hW.symm
  have hb := lt_of_block hD
  have hc := lt_of_block hR
  clear hW c0 c1 c2 c3 c4 c5 c6 c7 c8 c9 TR
  refine (D.Limit_any b d n _ M.dk).mono ?_; rintro e w3 ⟨rfl, T3⟩
  obtain ⟨hN3, hR3⟩ := after hb hc hbc M T3
  have E := fun W4 => both_end (W4 := W4) hb hc hbc M T3
  clear M
  have c0 := hN3.c0
  have f0 := hR3.f0
  have z0 := hR3.c0
  have c1 := hN3.c1
  have f1 := hR3.f1
  have z1 := hR3.c1
  have c2 := hN3.c2
  have f2 := hR3.f2
  have z2 := hR3.c2
  have c3 := hN3.c3
  have f3 := hR3.f3
  have z3 := hR3.c3
  have c4 := hN3.c4
  have f4 := hR3.f4
  have z4 := hR3.c4
  have c5 := hN3.c5
  have f5 := hR3.f5
  have z5 := hR3.c5
  have c6 := hN3.c6
  have f6 := hR3.f6
  have z6 := hR3.c6
  have c7 := hN3.c7
  have f7 := hR3.f7
  have z7 := hR3.c7
  have c8 := hN3.c8
  have f8 := hR3.f8
  have z8 := hR3.c8
  have c9 := hN3.c9
  have f9 := hR3.f9
  have z9 := hR3.c9
  clear T3
  go_wp2_with fail
  go_ret
  exact ⟨rfl, E _ (Turn.all hR3)⟩

set_option maxRecDepth 100000 in
set_option maxHeartbeats 16000000 in
theorem does_cra (b c : Nat) (d : Dk) (a : Ac) (w : World) (hD : D.Is b d w) (hR : Is c (toR d) w) (hbc : b ≠ c) (hm : d.made = true) (hf : d.Fits) (h0 : ¬ a.kind = 0) (h1 : ¬ a.kind = 1) (h2 : ¬ a.kind = 2) (h3 : ¬ a.kind = 3) :
    Calls Try.prog 39 #[.pointer (some ⟨b, 0, none⟩), .pointer (some ⟨c, 0, none⟩), .agg (actCells a.kind a.file a.text a.n a.k0 a.k1 a.k2 a.k3)] w fun e w' => e = .returned (.bool true) ∧ Both b c (D.crash d a.k0 a.k1 a.k2 a.k3) w w' := by
  obtain ⟨k, f, s, n, k0, k1, k2, k3⟩ := a
  dsimp only at *
  unfold actCells
  have TR := ((Turn.refl hR).alloc (Obj.cells #[.int .i64 k, .int .i64 f, .string s, .int .i64 n, .int .i64 k0, .int .i64 k1, .int .i64 k2, .int .i64 k3] 61))
  have c0 := TR.is.c0
  have c1 := TR.is.c1
  have c2 := TR.is.c2
  have c3 := TR.is.c3
  have c4 := TR.is.c4
  have c5 := TR.is.c5
  have c6 := TR.is.c6
  have c7 := TR.is.c7
  have c8 := TR.is.c8
  have c9 := TR.is.c9
  go_enter Try.func39, Try.ntmps39
  go_wp2_with fail
  generalize hW : (w.alloc (Obj.cells #[.int .i64 k, .int .i64 f, .string s, .int .i64 n, .int .i64 k0, .int .i64 k1, .int .i64 k2, .int .i64 k3] 61)).alloc (Obj.cells #[.string (toR d).a0, .int .i64 (toR d).p0, .string (toR d).a1, .int .i64 (toR d).p1, .string (toR d).a2, .int .i64 (toR d).p2, .string (toR d).a3, .int .i64 (toR d).p3, .int .i64 (toR d).limit, .bool (toR d).gone] 69) = W0
  have S := at0 hD hR _ W0 hW.symm
  have hWk : ∀ k, k < w.heap.size → W0.heap[k]? = w.heap[k]? := fun k hk => by rw [← hW, Below.heap_alloc _ _ _ (by simp; omega), Below.heap_alloc _ _ _ hk]
  have hb := lt_of_block hD
  have hc := lt_of_block hR
  clear hW c0 c1 c2 c3 c4 c5 c6 c7 c8 c9 TR
  have hA := S.act
  have hN := S.nx
  have hD0 := S.dk
  have hR0 := S.rf
  have c0 := hR0.c0
  have c1 := hR0.c1
  have c2 := hR0.c2
  have c3 := hR0.c3
  have c4 := hR0.c4
  have c5 := hR0.c5
  have c6 := hR0.c6
  have c7 := hR0.c7
  have c8 := hR0.c8
  have c9 := hR0.c9
  have a1 : W0.cell? ⟨w.heap.size, 1, none⟩ = some (.int .i64 f) := by simp [World.cell?, hA]
  have a2 : W0.cell? ⟨w.heap.size, 2, none⟩ = some (.string s) := by simp [World.cell?, hA]
  have a3 : W0.cell? ⟨w.heap.size, 3, none⟩ = some (.int .i64 n) := by simp [World.cell?, hA]
  have a4 : W0.cell? ⟨w.heap.size, 4, none⟩ = some (.int .i64 k0) := by simp [World.cell?, hA]
  have a5 : W0.cell? ⟨w.heap.size, 5, none⟩ = some (.int .i64 k1) := by simp [World.cell?, hA]
  have a6 : W0.cell? ⟨w.heap.size, 6, none⟩ = some (.int .i64 k2) := by simp [World.cell?, hA]
  have a7 : W0.cell? ⟨w.heap.size, 7, none⟩ = some (.int .i64 k3) := by simp [World.cell?, hA]
  have hNl := lt_of_block hN
  go_region_with (go_at_call 66; refine (Crash_any (toR d) k0 k1 k2 k3 _ (toR_fits hf) (toR_safe d)).mono ?_; rintro e w1 ⟨rfl, bel⟩; have hN1 : Is (w.heap.size + 1) (toR d) w1 := (bel.block _ hNl).trans hN; rw [crash_toR]; unfold Rf.cells; have f0 := hN1.f0; have z0 := hN1.c0; have f1 := hN1.f1; have z1 := hN1.c1; have f2 := hN1.f2; have z2 := hN1.c2; have f3 := hN1.f3; have z3 := hN1.c3; have f4 := hN1.f4; have z4 := hN1.c4; have f5 := hN1.f5; have z5 := hN1.c5; have f6 := hN1.f6; have z6 := hN1.c6; have f7 := hN1.f7; have z7 := hN1.c7; have f8 := hN1.f8; have z8 := hN1.c8; have f9 := hN1.f9; have z9 := hN1.c9)
  all_goals
    have M := mid hb hc S bel hWk (Turn.all (r := toR (D.crash d k0 k1 k2 k3)) hN1)
    generalize World.setCell (World.setCell (World.setCell (World.setCell (World.setCell (World.setCell (World.setCell (World.setCell (World.setCell (World.setCell (w1) ⟨w.heap.size + 1, 0, none⟩ (.string (toR (D.crash d k0 k1 k2 k3)).a0)) ⟨w.heap.size + 1, 1, none⟩ (.int .i64 (toR (D.crash d k0 k1 k2 k3)).p0)) ⟨w.heap.size + 1, 2, none⟩ (.string (toR (D.crash d k0 k1 k2 k3)).a1)) ⟨w.heap.size + 1, 3, none⟩ (.int .i64 (toR (D.crash d k0 k1 k2 k3)).p1)) ⟨w.heap.size + 1, 4, none⟩ (.string (toR (D.crash d k0 k1 k2 k3)).a2)) ⟨w.heap.size + 1, 5, none⟩ (.int .i64 (toR (D.crash d k0 k1 k2 k3)).p2)) ⟨w.heap.size + 1, 6, none⟩ (.string (toR (D.crash d k0 k1 k2 k3)).a3)) ⟨w.heap.size + 1, 7, none⟩ (.int .i64 (toR (D.crash d k0 k1 k2 k3)).p3)) ⟨w.heap.size + 1, 8, none⟩ (.int .i64 (toR (D.crash d k0 k1 k2 k3)).limit)) ⟨w.heap.size + 1, 9, none⟩ (.bool (toR (D.crash d k0 k1 k2 k3)).gone) = W2 at M ⊢
    clear hN1 bel f0 z0 c0 f1 z1 c1 f2 z2 c2 f3 z3 c3 f4 z4 c4 f5 z5 c5 f6 z6 c6 f7 z7 c7 f8 z8 c8 f9 z9 c9 a1 a2 a3 a4 a5 a6 a7 hA hN hD0 hR0
    have hA := M.act
    have a1 : W2.cell? ⟨w.heap.size, 1, none⟩ = some (.int .i64 f) := by simp [World.cell?, hA]
    have a2 : W2.cell? ⟨w.heap.size, 2, none⟩ = some (.string s) := by simp [World.cell?, hA]
    have a3 : W2.cell? ⟨w.heap.size, 3, none⟩ = some (.int .i64 n) := by simp [World.cell?, hA]
    have a4 : W2.cell? ⟨w.heap.size, 4, none⟩ = some (.int .i64 k0) := by simp [World.cell?, hA]
    have a5 : W2.cell? ⟨w.heap.size, 5, none⟩ = some (.int .i64 k1) := by simp [World.cell?, hA]
    have a6 : W2.cell? ⟨w.heap.size, 6, none⟩ = some (.int .i64 k2) := by simp [World.cell?, hA]
    have a7 : W2.cell? ⟨w.heap.size, 7, none⟩ = some (.int .i64 k3) := by simp [World.cell?, hA]
    go_wp2_with fail
    refine (D.Crash_made b d k0 k1 k2 k3 _ M.dk hf hm).mono ?_; rintro e w3 ⟨rfl, T3⟩
    obtain ⟨hN3, hR3⟩ := after hb hc hbc M T3
    have E := fun W4 => both_end (W4 := W4) hb hc hbc M T3
    clear M S
    have c0 := hN3.c0
    have f0 := hR3.f0
    have z0 := hR3.c0
    have c1 := hN3.c1
    have f1 := hR3.f1
    have z1 := hR3.c1
    have c2 := hN3.c2
    have f2 := hR3.f2
    have z2 := hR3.c2
    have c3 := hN3.c3
    have f3 := hR3.f3
    have z3 := hR3.c3
    have c4 := hN3.c4
    have f4 := hR3.f4
    have z4 := hR3.c4
    have c5 := hN3.c5
    have f5 := hR3.f5
    have z5 := hR3.c5
    have c6 := hN3.c6
    have f6 := hR3.f6
    have z6 := hR3.c6
    have c7 := hN3.c7
    have f7 := hR3.f7
    have z7 := hR3.c7
    have c8 := hN3.c8
    have f8 := hR3.f8
    have z8 := hR3.c8
    have c9 := hN3.c9
    have f9 := hR3.f9
    have z9 := hR3.c9
    clear T3
    go_wp2_with fail
    go_ret
    exact ⟨rfl, E _ (Turn.all hR3)⟩

/-- Both disks behind a call. -/
def did (d : Dk) (a : Ac) : Dk := if a.kind = 0 then appD d a.file a.text else if a.kind = 1 then synD d a.file else if a.kind = 2 then cutD d a.file a.n else if a.kind = 3 then { d with left := a.n } else D.crash d a.k0 a.k1 a.k2 a.k3
theorem does_any (b c : Nat) (d : Dk) (a : Ac) (w : World) (hD : D.Is b d w) (hR : Is c (toR d) w) (hbc : b ≠ c) (hm : d.made = true) (hf : d.Fits) :
    Calls Try.prog 39 #[.pointer (some ⟨b, 0, none⟩), .pointer (some ⟨c, 0, none⟩), .agg (actCells a.kind a.file a.text a.n a.k0 a.k1 a.k2 a.k3)] w fun e w' => e = .returned (.bool true) ∧ Both b c (did d a) w w' := by
  unfold did
  by_cases h0 : a.kind = 0
  · rw [if_pos h0]; exact does_app b c d a w hD hR hbc hm hf h0
  · rw [if_neg h0]
    by_cases h1 : a.kind = 1
    · rw [if_pos h1]; exact does_syn b c d a w hD hR hbc hm hf h1
    · rw [if_neg h1]
      by_cases h2 : a.kind = 2
      · rw [if_pos h2]; exact does_cut b c d a w hD hR hbc hm hf h2
      · rw [if_neg h2]
        by_cases h3 : a.kind = 3
        · rw [if_pos h3]; exact does_lim b c d a w hD hR hbc hm hf h3
        · rw [if_neg h3]; exact does_cra b c d a w hD hR hbc hm hf h0 h1 h2 h3
theorem did_made {d : Dk} (h : d.made = true) (a : Ac) : (did d a).made = true := by
  unfold did
  (repeat' split)
  · rw [appD_made]; exact h
  · rw [synD_made]; exact h
  · rw [cutD_made]; exact h
  · exact h
  · exact h
theorem did_fits {d : Dk} (h : d.Fits) {a : Ac} (ha : a.Wf) : (did d a).Fits := by
  unfold did
  (repeat' split)
  · exact appD_fits h _ _
  · exact synD_fits h _
  · exact cutD_fits h _ _
  · obtain ⟨h0, h1, h2, h3, _⟩ := h
    exact ⟨h0, h1, h2, h3, ha.2.2.1.2, ha.2.2.1.1⟩
  · exact crash_fits h _ _ _ _
end Go.Proofs.Ytejfdiiennnjjaa.R
