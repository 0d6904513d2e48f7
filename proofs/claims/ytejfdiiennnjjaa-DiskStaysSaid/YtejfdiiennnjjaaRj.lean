/- DiskPlays: the walk. -/
import Derived.Test.YtejfdiiennnjjaaRh
import Derived.Test.YtejfdiiennnjjaaRi
import Derived.Test.YtejfdiiennnjjaaDq
import Derived.LoopTactic
namespace Go.Proofs.Ytejfdiiennnjjaa.R
open Go.RowKit Go.Proofs Go.Proofs.Ytejfdiiennnjjaa Go.Proofs.Ytejfdiiennnjjaa.D
set_option linter.unusedVariables false

/-- What the loop keeps. -/
structure PInv (c : Nat) (w0 w : World) : Prop where
  st : ∃ d : Dk, D.Is w0.heap.size d w ∧ Is c (toR d) w ∧ d.made = true ∧ d.Fits
  lt : w0.heap.size < c
  below : Below w0.heap.size w0 w
theorem two_new (w w1 w2 : World) (h1 : D.Is w.heap.size zero w1) (b1 : Below w.heap.size w w1) (b2 : Below w1.heap.size w1 w2) : PInv w2.heap.size w (w2.alloc (.cells (toR zero).cells 69)) := by
  have hb := lt_of_block h1
  have h2 : D.Is w.heap.size zero w2 := (b2.block _ hb).trans h1
  have hb2 := lt_of_block h2
  refine ⟨⟨zero, ?_, heap_alloc_new _ _, rfl, zero_fits⟩, hb2, (b1.trans (b2.mono (Nat.le_of_lt hb))).alloc (Nat.le_of_lt hb2) _⟩
  unfold D.Is at h2 ⊢
  rw [Below.heap_alloc _ _ _ hb2]
  exact h2
theorem act_cells {w : World} {ad : Addr} {n : Nat} {a : Ac} (h : ∀ i, i < 8 → w.cell? (ad.add (n + i)) = a.cells[i]?) :
    w.cell? (ad.add n) = some (.int .i64 a.kind) ∧ w.cell? ⟨(ad.add n).block, (ad.add n).off + 1, none⟩ = some (.int .i64 a.file) ∧ w.cell? ⟨(ad.add n).block, (ad.add n).off + 2, none⟩ = some (.string a.text) ∧ w.cell? ⟨(ad.add n).block, (ad.add n).off + 3, none⟩ = some (.int .i64 a.n) ∧
    w.cell? ⟨(ad.add n).block, (ad.add n).off + 4, none⟩ = some (.int .i64 a.k0) ∧ w.cell? ⟨(ad.add n).block, (ad.add n).off + 5, none⟩ = some (.int .i64 a.k1) ∧ w.cell? ⟨(ad.add n).block, (ad.add n).off + 6, none⟩ = some (.int .i64 a.k2) ∧ w.cell? ⟨(ad.add n).block, (ad.add n).off + 7, none⟩ = some (.int .i64 a.k3) := by
  have g : ∀ j, j < 7 → w.cell? ⟨(ad.add n).block, (ad.add n).off + (j + 1), none⟩ = a.cells[j + 1]? := fun j hj => by
    rw [← h (j + 1) (by omega), ← Deep.add_add]
    rfl
  exact ⟨h 0 (by omega), g 0 (by omega), g 1 (by omega), g 2 (by omega), g 3 (by omega), g 4 (by omega), g 5 (by omega), g 6 (by omega)⟩
set_option maxRecDepth 100000 in
set_option maxHeartbeats 8000000 in
theorem Plays_any (A : Option Addr) (cp : Nat) (l : List Ac) (w : World) (hA : Acts A l w) (hl : l.length ≤ 2000000000000) (hwf : ∀ j, j < l.length → (l.getD j default).Wf) :
    Calls Try.prog 10 #[.slice A l.length cp] w fun e w' => e = .returned (.bool true) ∧ Below w.heap.size w w' := by
  go_enter Try.func10, Try.ntmps10
  go_wp2_with fail
  refine (D.New_any w).mono ?_; rintro e w1 ⟨rfl, h1, b1⟩
  go_wp2_with fail
  refine (New_any w1).mono ?_; rintro e w2 ⟨rfl, b2⟩
  rw [new_toR]
  have P0 := two_new w w1 w2 h1 b1 b2
  clear h1 b1 b2
  unfold Rf.cells
  go_wp2_with fail
  go_loopw [5] (fun i wr => ∃ k : Int, 0 ≤ k ∧ k ≤ l.length ∧ k ≤ 60 ∧ i = .int .i64 k ∧ PInv w2.heap.size w wr) (fun i _ => l.length - (intOf i).toNat)
  case atStart => exact ⟨0, by omega, by omega, by omega, rfl, P0⟩
  case round =>
    obtain ⟨k, hk0, hkl, hk60, rfl, I⟩ := hrel
    obtain ⟨⟨d, hD, hR, hm, hf⟩, hlt2, hB⟩ := I
    by_cases hlt : k < l.length
    · by_cases h60 : k < 60
      · obtain ⟨ad, rfl, hsp, hc⟩ := (hA.keep fun c hc => hB.block c hc) k.toNat (by omega)
        have hW := hwf k.toNat (by omega)
        generalize l.getD k.toNat default = a at *
        obtain ⟨x0, x1, x2, x3, x4, x5, x6, x7⟩ := act_cells hc
        clear hc
        by_cases hs : (a.text.size : Int) ≤ 20000
        · go_wp2_with fail
          refine (does_any _ _ d a _ hD hR (by omega) hm hf).mono ?_; rintro e w3 ⟨rfl, T3⟩
          have hm3 := did_made hm a
          have hf3 := did_fits hf hW
          have B3 := hB.trans (T3.below _ (Nat.le_refl _) (Nat.le_of_lt hlt2))
          have hD3 := T3.dk
          have hR3 := T3.rf
          clear hD hR hm hf hB T3 x0 x1 x2 x3 x4 x5 x6 x7 hW
          generalize did d a = d3 at *
          have c0 := hR3.c0
          have c1 := hR3.c1
          have c2 := hR3.c2
          have c3 := hR3.c3
          have c4 := hR3.c4
          have c5 := hR3.c5
          have c6 := hR3.c6
          have c7 := hR3.c7
          have c8 := hR3.c8
          have c9 := hR3.c9
          go_wp2_with fail
          refine (shows_any _ d3 _ hD3 hm3 hf3).mono ?_; rintro e w4 ⟨rfl, T4⟩
          have hR4 := (T4.others _ (lt_of_block hR3) (by omega)).trans hR3
          have I4 : PInv w2.heap.size w w4 := ⟨⟨d3, T4.is, hR4, hm3, hf3⟩, hlt2, B3.trans (T4.below _ (Nat.le_refl _))⟩
          clear T4 hR4 c0 c1 c2 c3 c4 c5 c6 c7 c8 c9 hD3 hR3 B3
          go_wp2_with fail
          go_roundw
          case rel => exact ⟨k + 1, by omega, by omega, by omega, by go_num, I4⟩
          case measure => simp [intOf]; omega
        · have I4 : PInv w2.heap.size w wr := ⟨⟨d, hD, hR, hm, hf⟩, hlt2, hB⟩
          clear x0 x1 x3 x4 x5 x6 x7
          go_wp2_with fail
          go_roundw
          case rel => exact ⟨k + 1, by omega, by omega, by omega, by go_num, I4⟩
          case measure => simp [intOf]; omega
      · go_wp2_with fail
        refine (awake_any _).mono ?_; rintro e w6 ⟨rfl, B6⟩
        go_wp2
        go_ret
        exact ⟨rfl, hB.trans (B6.mono (Nat.le_of_lt (lt_of_block hD)))⟩
    · go_wp2_with fail
      refine (awake_any _).mono ?_; rintro e w6 ⟨rfl, B6⟩
      go_wp2
      go_ret
      exact ⟨rfl, hB.trans (B6.mono (Nat.le_of_lt (lt_of_block hD)))⟩
end Go.Proofs.Ytejfdiiennnjjaa.R
