/- DiskStays: the walk. -/
import Derived.Test.YtejfdiiennnjjaaRk
namespace Go.Proofs.Ytejfdiiennnjjaa.R
open Go.RowKit Go.Proofs Go.Proofs.Ytejfdiiennnjjaa Go.Proofs.Ytejfdiiennnjjaa.D
set_option linter.unusedVariables false

/-- What a file of that disk has, and how much of it is late. -/
structure Say (d : Dk) (S : ByteArray) (L : Nat) (i : Int) : Prop where
  rd : ∀ b w, D.Is b d w → Calls Try.prog 41 #[.pointer (some ⟨b, 0, none⟩), .int .i64 i] w fun e w' => e = .returned (.tuple #[.string S, .int .i64 0]) ∧ D.Turn b d w w'
  lt : ∀ b w, D.Is b d w → Calls Try.prog 42 #[.pointer (some ⟨b, 0, none⟩), .int .i64 i] w fun e w' => e = .returned (.int .i64 (L : Nat)) ∧ w' = w
theorem say {d : Dk} (hm : d.made = true) (hf : d.Fits) (hd : d.dead = false) (i : Int) (h0 : 0 ≤ i) (h4 : i < 4) : Say d (d.s i ++ d.l i) (d.l i).size i := by
  have hr := alive_rdy hm hd i h0 h4
  refine ⟨fun b w h => ?_, fun b w h => D.Late_ok b d i w h hr⟩
  have R := D.Read_any b d i w h hf
  unfold allOf at R
  rw [hr, if_neg (by simp)] at R
  exact R
def sel (k0 k1 k2 k3 i : Int) : Int := if i = 0 then k0 else if i = 1 then k1 else if i = 2 then k2 else k3
theorem crash_s (d : Dk) (k0 k1 k2 k3 i : Int) : (D.crash d k0 k1 k2 k3).s i = keep1 (d.s i) (d.l i) (sel k0 k1 k2 k3 i) ∧ (D.crash d k0 k1 k2 k3).l i = ⟨#[]⟩ := by
  unfold Dk.s Dk.l sel
  by_cases h0 : i = 0
  · simp only [if_pos h0]; exact ⟨rfl, rfl⟩
  · simp only [if_neg h0]
    by_cases h1 : i = 1
    · simp only [if_pos h1]; exact ⟨rfl, rfl⟩
    · simp only [if_neg h1]
      by_cases h2 : i = 2
      · simp only [if_pos h2]; exact ⟨rfl, rfl⟩
      · simp only [if_neg h2]; exact ⟨rfl, rfl⟩
theorem no_more (x : ByteArray) : x ++ (⟨#[]⟩ : ByteArray) = x := ByteArray.append_empty
theorem keep1_none (x : ByteArray) (k : Int) : keep1 x ⟨#[]⟩ k = x := by
  unfold keep1 kept
  rw [D.no_len, Nat.min_zero]
  exact no_more x
theorem keep1_facts (s l : ByteArray) (k : Int) : (keep1 s l k).size ≤ (s ++ l).size ∧ (s ++ l).size ≤ (keep1 s l k).size + l.size ∧ (s ++ l).extract 0 (keep1 s l k).size = keep1 s l k ∧ l.size ≤ (s ++ l).size := by
  have h := kept_le k l
  rw [keep1_size, ByteArray.size_append]
  refine ⟨by omega, by omega, ?_, by omega⟩
  rw [ext_out _ _ _ (by omega), Nat.add_sub_cancel_left]
  rfl
/-- All of a file: as it is, behind a crash, behind another. -/
structure One (d : Dk) (k0 k1 k2 k3 g0 g1 g2 g3 : Int) (S : ByteArray) (L : Nat) (R : ByteArray) (i : Int) : Prop where
  a : Say d S L i
  b : Say (D.crash d k0 k1 k2 k3) R 0 i
  c : Say (D.crash (D.crash d k0 k1 k2 k3) g0 g1 g2 g3) R 0 i
  le : R.size ≤ S.size
  ge : S.size ≤ R.size + L
  ex : S.extract 0 R.size = R
  ll : L ≤ S.size
  mx : S.size ≤ 1048576
theorem one {d : Dk} (hm : d.made = true) (hf : d.Fits) (hd : d.dead = false) (k0 k1 k2 k3 g0 g1 g2 g3 : Int) (i : Int) (h0 : 0 ≤ i) (h4 : i < 4) : ∃ S L R, One d k0 k1 k2 k3 g0 g1 g2 g3 S L R i := by
  obtain ⟨e1, e2⟩ := crash_s d k0 k1 k2 k3 i
  obtain ⟨e3, e4⟩ := crash_s (D.crash d k0 k1 k2 k3) g0 g1 g2 g3 i
  obtain ⟨f1, f2, f3, f4⟩ := keep1_facts (d.s i) (d.l i) (sel k0 k1 k2 k3 i)
  have c1 := crash_fits hf k0 k1 k2 k3
  have hx := D.len_max hf i
  have hb := say (d := D.crash d k0 k1 k2 k3) hm c1 rfl i h0 h4
  have hc := say (d := D.crash (D.crash d k0 k1 k2 k3) g0 g1 g2 g3) hm (crash_fits c1 g0 g1 g2 g3) rfl i h0 h4
  rw [e1, e2, no_more, D.no_len] at hb
  rw [e3, e4, e1, e2, no_more, D.no_len, keep1_none] at hc
  exact ⟨_, _, _, say hm hf hd i h0 h4, hb, hc, f1, f2, f3, f4, by rw [ByteArray.size_append]; exact hx⟩

set_option maxRecDepth 100000 in
set_option maxHeartbeats 16000000 in
theorem Stays_any (A : Option Addr) (cp : Nat) (l : List Ac) (A2 : Option Addr) (cp2 : Nat) (l2 : List Ac) (k0 k1 k2 k3 g0 g1 g2 g3 : Int) (w : World) (hA : Acts A l w) (hA2 : Acts A2 l2 w) (hl : l.length ≤ 2000000000000) (hl2 : l2.length ≤ 2000000000000)
    (hwf : ∀ j, j < l.length → (l.getD j default).Wf) (hwf2 : ∀ j, j < l2.length → (l2.getD j default).Wf) :
    Calls Try.prog 11 #[.slice A l.length cp, .slice A2 l2.length cp2, .agg #[.int .i64 k0, .int .i64 k1, .int .i64 k2, .int .i64 k3], .agg #[.int .i64 g0, .int .i64 g1, .int .i64 g2, .int .i64 g3]] w fun e w' => e = .returned (.bool true) ∧ Below w.heap.size w w' := by
  go_enter Try.func11, Try.ntmps11
  go_wp2_with fail
  refine (D.New_any _).mono ?_; rintro e w1 ⟨rfl, h1, b1⟩
  have hz : ((w.alloc (Obj.cells #[.int .i64 k0, .int .i64 k1, .int .i64 k2, .int .i64 k3] 59)).alloc (Obj.cells #[.int .i64 g0, .int .i64 g1, .int .i64 g2, .int .i64 g3] 59)).heap.size = w.heap.size + 2 := by simp
  rw [hz] at h1 b1 ⊢
  go_wp2_with fail
  refine (New_any w1).mono ?_; rintro e w2 ⟨rfl, b2⟩
  rw [new_toR]
  have P0 := three_new #[.int .i64 k0, .int .i64 k1, .int .i64 k2, .int .i64 k3] #[.int .i64 g0, .int .i64 g1, .int .i64 g2, .int .i64 g3] h1 b1 b2
  clear h1 b1 b2 hz
  unfold Rf.cells
  go_wp2_with fail
  go_loopw [11] (fun i wr => ∃ k : Int, 0 ≤ k ∧ k ≤ l.length + l2.length ∧ k ≤ 60 ∧ i = .int .i64 k ∧ W1 w2.heap.size #[.int .i64 k0, .int .i64 k1, .int .i64 k2, .int .i64 k3] #[.int .i64 g0, .int .i64 g1, .int .i64 g2, .int .i64 g3] w wr) (fun i _ => l.length + l2.length - (intOf i).toNat)
  case atStart => exact ⟨0, by omega, by omega, by omega, rfl, P0⟩
  case round =>
    obtain ⟨k, hk0, hkl, hk60, rfl, I⟩ := hrel
    by_cases hlt : k < (l.length : Int) + l2.length
    · by_cases h60 : k < 60
      · have IA := I.alloc (Obj.cells #[.int .i64 1, .int .i64 0, .string ⟨#[]⟩, .int .i64 0, .int .i64 0, .int .i64 0, .int .i64 0, .int .i64 0] 61)
        by_cases hin : k < l.length
        · obtain ⟨ad, rfl, hsp, hc⟩ := (hA.keep fun c hc => I.below.block c hc) k.toNat (by omega)
          have hW := hwf k.toNat (by omega)
          generalize l.getD k.toNat default = a at *
          obtain ⟨x0, x1, x2, x3, x4, x5, x6, x7⟩ := act_cells hc
          clear hc
          replace x0 := cell_alloc (Obj.cells #[.int .i64 1, .int .i64 0, .string ⟨#[]⟩, .int .i64 0, .int .i64 0, .int .i64 0, .int .i64 0, .int .i64 0] 61) x0
          replace x1 := cell_alloc (Obj.cells #[.int .i64 1, .int .i64 0, .string ⟨#[]⟩, .int .i64 0, .int .i64 0, .int .i64 0, .int .i64 0, .int .i64 0] 61) x1
          replace x2 := cell_alloc (Obj.cells #[.int .i64 1, .int .i64 0, .string ⟨#[]⟩, .int .i64 0, .int .i64 0, .int .i64 0, .int .i64 0, .int .i64 0] 61) x2
          replace x3 := cell_alloc (Obj.cells #[.int .i64 1, .int .i64 0, .string ⟨#[]⟩, .int .i64 0, .int .i64 0, .int .i64 0, .int .i64 0, .int .i64 0] 61) x3
          replace x4 := cell_alloc (Obj.cells #[.int .i64 1, .int .i64 0, .string ⟨#[]⟩, .int .i64 0, .int .i64 0, .int .i64 0, .int .i64 0, .int .i64 0] 61) x4
          replace x5 := cell_alloc (Obj.cells #[.int .i64 1, .int .i64 0, .string ⟨#[]⟩, .int .i64 0, .int .i64 0, .int .i64 0, .int .i64 0, .int .i64 0] 61) x5
          replace x6 := cell_alloc (Obj.cells #[.int .i64 1, .int .i64 0, .string ⟨#[]⟩, .int .i64 0, .int .i64 0, .int .i64 0, .int .i64 0, .int .i64 0] 61) x6
          replace x7 := cell_alloc (Obj.cells #[.int .i64 1, .int .i64 0, .string ⟨#[]⟩, .int .i64 0, .int .i64 0, .int .i64 0, .int .i64 0, .int .i64 0] 61) x7
          by_cases hk2 : a.kind < 2
          · by_cases hs : (a.text.size : Int) ≤ 20000
            · obtain ⟨d, hD, hR, hm, hf, hd, hlf⟩ := (I.alloc (Obj.cells #[.int .i64 a.kind, .int .i64 a.file, .string a.text, .int .i64 a.n, .int .i64 a.k0, .int .i64 a.k1, .int .i64 a.k2, .int .i64 a.k3] 61)).st
              have E := did_alive hd hlf hk2
              go_wp2_with fail
              refine (does_any _ _ d a _ hD hR (by have := I.lt; omega) hm hf).mono ?_; rintro e w3 ⟨rfl, T3⟩
              have I4 := I.next rfl (did_made hm a) (did_fits hf hW) E.1 E.2 T3
              clear T3 hD hR hm hf hd hlf E x0 x1 x2 x3 x4 x5 x6 x7 IA hW I
              go_wp2_with fail
              go_roundw
              case rel => exact ⟨k + 1, by omega, by omega, by omega, by go_num, I4⟩
              case measure => simp [intOf]; omega
            · have I4 := I.alloc (Obj.cells #[.int .i64 a.kind, .int .i64 a.file, .string a.text, .int .i64 a.n, .int .i64 a.k0, .int .i64 a.k1, .int .i64 a.k2, .int .i64 a.k3] 61)
              go_wp2_with fail
              go_roundw
              case rel => exact ⟨k + 1, by omega, by omega, by omega, by go_num, I4⟩
              case measure => simp [intOf]; omega
          · have I4 := I.alloc (Obj.cells #[.int .i64 a.kind, .int .i64 a.file, .string a.text, .int .i64 a.n, .int .i64 a.k0, .int .i64 a.k1, .int .i64 a.k2, .int .i64 a.k3] 61)
            go_wp2_with fail
            go_roundw
            case rel => exact ⟨k + 1, by omega, by omega, by omega, by go_num, I4⟩
            case measure => simp [intOf]; omega
        · obtain ⟨ad, rfl, hsp, hc⟩ := (hA2.keep fun c hc => I.below.block c hc) (k.toNat - l.length) (by omega)
          have hW := hwf2 (k.toNat - l.length) (by omega)
          generalize l2.getD (k.toNat - l.length) default = a at *
          obtain ⟨x0, x1, x2, x3, x4, x5, x6, x7⟩ := act_cells hc
          clear hc
          replace x0 := cell_alloc (Obj.cells #[.int .i64 1, .int .i64 0, .string ⟨#[]⟩, .int .i64 0, .int .i64 0, .int .i64 0, .int .i64 0, .int .i64 0] 61) x0
          replace x1 := cell_alloc (Obj.cells #[.int .i64 1, .int .i64 0, .string ⟨#[]⟩, .int .i64 0, .int .i64 0, .int .i64 0, .int .i64 0, .int .i64 0] 61) x1
          replace x2 := cell_alloc (Obj.cells #[.int .i64 1, .int .i64 0, .string ⟨#[]⟩, .int .i64 0, .int .i64 0, .int .i64 0, .int .i64 0, .int .i64 0] 61) x2
          replace x3 := cell_alloc (Obj.cells #[.int .i64 1, .int .i64 0, .string ⟨#[]⟩, .int .i64 0, .int .i64 0, .int .i64 0, .int .i64 0, .int .i64 0] 61) x3
          replace x4 := cell_alloc (Obj.cells #[.int .i64 1, .int .i64 0, .string ⟨#[]⟩, .int .i64 0, .int .i64 0, .int .i64 0, .int .i64 0, .int .i64 0] 61) x4
          replace x5 := cell_alloc (Obj.cells #[.int .i64 1, .int .i64 0, .string ⟨#[]⟩, .int .i64 0, .int .i64 0, .int .i64 0, .int .i64 0, .int .i64 0] 61) x5
          replace x6 := cell_alloc (Obj.cells #[.int .i64 1, .int .i64 0, .string ⟨#[]⟩, .int .i64 0, .int .i64 0, .int .i64 0, .int .i64 0, .int .i64 0] 61) x6
          replace x7 := cell_alloc (Obj.cells #[.int .i64 1, .int .i64 0, .string ⟨#[]⟩, .int .i64 0, .int .i64 0, .int .i64 0, .int .i64 0, .int .i64 0] 61) x7
          by_cases hk2 : a.kind < 2
          · by_cases hs : (a.text.size : Int) ≤ 20000
            · obtain ⟨d, hD, hR, hm, hf, hd, hlf⟩ := (I.alloc (Obj.cells #[.int .i64 a.kind, .int .i64 a.file, .string a.text, .int .i64 a.n, .int .i64 a.k0, .int .i64 a.k1, .int .i64 a.k2, .int .i64 a.k3] 61)).st
              have E := did_alive hd hlf hk2
              go_wp2_with fail
              refine (does_any _ _ d a _ hD hR (by have := I.lt; omega) hm hf).mono ?_; rintro e w3 ⟨rfl, T3⟩
              have I4 := I.next rfl (did_made hm a) (did_fits hf hW) E.1 E.2 T3
              clear T3 hD hR hm hf hd hlf E x0 x1 x2 x3 x4 x5 x6 x7 IA hW I
              go_wp2_with fail
              go_roundw
              case rel => exact ⟨k + 1, by omega, by omega, by omega, by go_num, I4⟩
              case measure => simp [intOf]; omega
            · have I4 := I.alloc (Obj.cells #[.int .i64 a.kind, .int .i64 a.file, .string a.text, .int .i64 a.n, .int .i64 a.k0, .int .i64 a.k1, .int .i64 a.k2, .int .i64 a.k3] 61)
              go_wp2_with fail
              go_roundw
              case rel => exact ⟨k + 1, by omega, by omega, by omega, by go_num, I4⟩
              case measure => simp [intOf]; omega
          · have I4 := I.alloc (Obj.cells #[.int .i64 a.kind, .int .i64 a.file, .string a.text, .int .i64 a.n, .int .i64 a.k0, .int .i64 a.k1, .int .i64 a.k2, .int .i64 a.k3] 61)
            go_wp2_with fail
            go_roundw
            case rel => exact ⟨k + 1, by omega, by omega, by omega, by go_num, I4⟩
            case measure => simp [intOf]; omega
      · skip
        obtain ⟨d, hD, hR, hm, hf, hd, hlf⟩ := I.st
        obtain ⟨S0, L0, R0, O0⟩ := one hm hf hd k0 k1 k2 k3 g0 g1 g2 g3 0 (by omega) (by omega)
        obtain ⟨S1, L1, R1, O1⟩ := one hm hf hd k0 k1 k2 k3 g0 g1 g2 g3 1 (by omega) (by omega)
        obtain ⟨S2, L2, R2, O2⟩ := one hm hf hd k0 k1 k2 k3 g0 g1 g2 g3 2 (by omega) (by omega)
        obtain ⟨S3, L3, R3, O3⟩ := one hm hf hd k0 k1 k2 k3 g0 g1 g2 g3 3 (by omega) (by omega)
        have V0 := new_two I.kp I.ag hD I.below (fill (.string ⟨#[]⟩) (.string S0) (.string S1) (.string S2) (.string S3) 0) (fill (.int .i64 0) (.int .i64 ((S0.size : Int) - (L0 : Int))) (.int .i64 ((S1.size : Int) - (L1 : Int))) (.int .i64 ((S2.size : Int) - (L2 : Int))) (.int .i64 ((S3.size : Int) - (L3 : Int))) 0)
        have hf1 := crash_fits hf k0 k1 k2 k3
        clear hD hR hd hlf
        generalize hp : wr.heap.size = p at V0
        go_wp2_with fail
        generalize hW : (wr.alloc (Obj.cells #[.string ⟨#[]⟩, .string ⟨#[]⟩, .string ⟨#[]⟩, .string ⟨#[]⟩] 75)).alloc (Obj.cells #[.int .i64 0, .int .i64 0, .int .i64 0, .int .i64 0] 59) = wq
        replace V0 : V w #[.int .i64 k0, .int .i64 k1, .int .i64 k2, .int .i64 k3] #[.int .i64 g0, .int .i64 g1, .int .i64 g2, .int .i64 g3] d p (fill (.string ⟨#[]⟩) (.string S0) (.string S1) (.string S2) (.string S3) 0) (fill (.int .i64 0) (.int .i64 ((S0.size : Int) - (L0 : Int))) (.int .i64 ((S1.size : Int) - (L1 : Int))) (.int .i64 ((S2.size : Int) - (L2 : Int))) (.int .i64 ((S3.size : Int) - (L3 : Int))) 0) wq := by rw [← hW]; exact V0
        clear hW hp I
        have ll0 := O0.ll
        have m0 := O0.mx
        have e0 := O0.le
        have ge0 := O0.ge
        have x0 := O0.ex
        have u0 : R0.size ≤ 1048576 := by omega
        have ll1 := O1.ll
        have m1 := O1.mx
        have e1 := O1.le
        have ge1 := O1.ge
        have x1 := O1.ex
        have u1 : R1.size ≤ 1048576 := by omega
        have ll2 := O2.ll
        have m2 := O2.mx
        have e2 := O2.le
        have ge2 := O2.ge
        have x2 := O2.ex
        have u2 : R2.size ≤ 1048576 := by omega
        have ll3 := O3.ll
        have m3 := O3.mx
        have e3 := O3.le
        have ge3 := O3.ge
        have x3 := O3.ex
        have u3 : R3.size ≤ 1048576 := by omega
        go_loopw [15] (fun i wz => ∃ n : Int, 0 ≤ n ∧ n ≤ 4 ∧ i = .int .i64 n ∧ V w #[.int .i64 k0, .int .i64 k1, .int .i64 k2, .int .i64 k3] #[.int .i64 g0, .int .i64 g1, .int .i64 g2, .int .i64 g3] d p (fill (.string ⟨#[]⟩) (.string S0) (.string S1) (.string S2) (.string S3) n.toNat) (fill (.int .i64 0) (.int .i64 ((S0.size : Int) - (L0 : Int))) (.int .i64 ((S1.size : Int) - (L1 : Int))) (.int .i64 ((S2.size : Int) - (L2 : Int))) (.int .i64 ((S3.size : Int) - (L3 : Int))) n.toNat) wz) (fun i _ => (4 - intOf i).toNat)
        case atStart => exact ⟨0, by omega, by omega, rfl, V0⟩
        case round =>
          obtain ⟨n, hn0, hn4, rfl, J⟩ := hrel
          obtain rfl | rfl | rfl | rfl | rfl : n = 0 ∨ n = 1 ∨ n = 2 ∨ n = 3 ∨ n = 4 := by omega
          · replace J : V w #[.int .i64 k0, .int .i64 k1, .int .i64 k2, .int .i64 k3] #[.int .i64 g0, .int .i64 g1, .int .i64 g2, .int .i64 g3] d p (fill (.string ⟨#[]⟩) (.string S0) (.string S1) (.string S2) (.string S3) 0) (fill (.int .i64 0) (.int .i64 ((S0.size : Int) - (L0 : Int))) (.int .i64 ((S1.size : Int) - (L1 : Int))) (.int .i64 ((S2.size : Int) - (L2 : Int))) (.int .i64 ((S3.size : Int) - (L3 : Int))) 0) wr := J
            go_wp2_with fail
            refine (O0.a.rd _ _ J.dk).mono ?_; rintro e w3 ⟨rfl, T3⟩
            have J3 := J.turn T3
            clear T3 J
            obtain ⟨⟨a0, a1, a2, a3⟩, f0, f1, f2, f3⟩ := four_cells J3.al
            have J4 := J3.putX 0 (.string S0)
            have Q := O0.a.lt _ _ J4.dk
            obtain ⟨⟨b0, b1, b2, b3⟩, h0, h1, h2, h3⟩ := four_cells (show _ = some (Obj.cells (fill (.int .i64 0) (.int .i64 ((S0.size : Int) - (L0 : Int))) (.int .i64 ((S1.size : Int) - (L1 : Int))) (.int .i64 ((S2.size : Int) - (L2 : Int))) (.int .i64 ((S3.size : Int) - (L3 : Int))) 0) 59 (0, 0)) from J4.sf)
            have J5 := J4.putY 0 (.int .i64 ((S0.size : Int) - (L0 : Int)))
            clear J3
            go_wp2_with fail
            refine Q.mono ?_; rintro e w4 ⟨rfl, rfl⟩
            go_wp2_with fail
            go_roundw
            case rel => exact ⟨1, by omega, by omega, rfl, J5⟩
            case measure => simp [intOf]
          · replace J : V w #[.int .i64 k0, .int .i64 k1, .int .i64 k2, .int .i64 k3] #[.int .i64 g0, .int .i64 g1, .int .i64 g2, .int .i64 g3] d p (fill (.string ⟨#[]⟩) (.string S0) (.string S1) (.string S2) (.string S3) 1) (fill (.int .i64 0) (.int .i64 ((S0.size : Int) - (L0 : Int))) (.int .i64 ((S1.size : Int) - (L1 : Int))) (.int .i64 ((S2.size : Int) - (L2 : Int))) (.int .i64 ((S3.size : Int) - (L3 : Int))) 1) wr := J
            go_wp2_with fail
            refine (O1.a.rd _ _ J.dk).mono ?_; rintro e w3 ⟨rfl, T3⟩
            have J3 := J.turn T3
            clear T3 J
            obtain ⟨⟨a0, a1, a2, a3⟩, f0, f1, f2, f3⟩ := four_cells J3.al
            have J4 := J3.putX 1 (.string S1)
            have Q := O1.a.lt _ _ J4.dk
            obtain ⟨⟨b0, b1, b2, b3⟩, h0, h1, h2, h3⟩ := four_cells (show _ = some (Obj.cells (fill (.int .i64 0) (.int .i64 ((S0.size : Int) - (L0 : Int))) (.int .i64 ((S1.size : Int) - (L1 : Int))) (.int .i64 ((S2.size : Int) - (L2 : Int))) (.int .i64 ((S3.size : Int) - (L3 : Int))) 1) 59 (0, 0)) from J4.sf)
            have J5 := J4.putY 1 (.int .i64 ((S1.size : Int) - (L1 : Int)))
            clear J3
            go_wp2_with fail
            refine Q.mono ?_; rintro e w4 ⟨rfl, rfl⟩
            go_wp2_with fail
            go_roundw
            case rel => exact ⟨2, by omega, by omega, rfl, J5⟩
            case measure => simp [intOf]
          · replace J : V w #[.int .i64 k0, .int .i64 k1, .int .i64 k2, .int .i64 k3] #[.int .i64 g0, .int .i64 g1, .int .i64 g2, .int .i64 g3] d p (fill (.string ⟨#[]⟩) (.string S0) (.string S1) (.string S2) (.string S3) 2) (fill (.int .i64 0) (.int .i64 ((S0.size : Int) - (L0 : Int))) (.int .i64 ((S1.size : Int) - (L1 : Int))) (.int .i64 ((S2.size : Int) - (L2 : Int))) (.int .i64 ((S3.size : Int) - (L3 : Int))) 2) wr := J
            go_wp2_with fail
            refine (O2.a.rd _ _ J.dk).mono ?_; rintro e w3 ⟨rfl, T3⟩
            have J3 := J.turn T3
            clear T3 J
            obtain ⟨⟨a0, a1, a2, a3⟩, f0, f1, f2, f3⟩ := four_cells J3.al
            have J4 := J3.putX 2 (.string S2)
            have Q := O2.a.lt _ _ J4.dk
            obtain ⟨⟨b0, b1, b2, b3⟩, h0, h1, h2, h3⟩ := four_cells (show _ = some (Obj.cells (fill (.int .i64 0) (.int .i64 ((S0.size : Int) - (L0 : Int))) (.int .i64 ((S1.size : Int) - (L1 : Int))) (.int .i64 ((S2.size : Int) - (L2 : Int))) (.int .i64 ((S3.size : Int) - (L3 : Int))) 2) 59 (0, 0)) from J4.sf)
            have J5 := J4.putY 2 (.int .i64 ((S2.size : Int) - (L2 : Int)))
            clear J3
            go_wp2_with fail
            refine Q.mono ?_; rintro e w4 ⟨rfl, rfl⟩
            go_wp2_with fail
            go_roundw
            case rel => exact ⟨3, by omega, by omega, rfl, J5⟩
            case measure => simp [intOf]
          · replace J : V w #[.int .i64 k0, .int .i64 k1, .int .i64 k2, .int .i64 k3] #[.int .i64 g0, .int .i64 g1, .int .i64 g2, .int .i64 g3] d p (fill (.string ⟨#[]⟩) (.string S0) (.string S1) (.string S2) (.string S3) 3) (fill (.int .i64 0) (.int .i64 ((S0.size : Int) - (L0 : Int))) (.int .i64 ((S1.size : Int) - (L1 : Int))) (.int .i64 ((S2.size : Int) - (L2 : Int))) (.int .i64 ((S3.size : Int) - (L3 : Int))) 3) wr := J
            go_wp2_with fail
            refine (O3.a.rd _ _ J.dk).mono ?_; rintro e w3 ⟨rfl, T3⟩
            have J3 := J.turn T3
            clear T3 J
            obtain ⟨⟨a0, a1, a2, a3⟩, f0, f1, f2, f3⟩ := four_cells J3.al
            have J4 := J3.putX 3 (.string S3)
            have Q := O3.a.lt _ _ J4.dk
            obtain ⟨⟨b0, b1, b2, b3⟩, h0, h1, h2, h3⟩ := four_cells (show _ = some (Obj.cells (fill (.int .i64 0) (.int .i64 ((S0.size : Int) - (L0 : Int))) (.int .i64 ((S1.size : Int) - (L1 : Int))) (.int .i64 ((S2.size : Int) - (L2 : Int))) (.int .i64 ((S3.size : Int) - (L3 : Int))) 3) 59 (0, 0)) from J4.sf)
            have J5 := J4.putY 3 (.int .i64 ((S3.size : Int) - (L3 : Int)))
            clear J3
            go_wp2_with fail
            refine Q.mono ?_; rintro e w4 ⟨rfl, rfl⟩
            go_wp2_with fail
            go_roundw
            case rel => exact ⟨4, by omega, by omega, rfl, J5⟩
            case measure => simp [intOf]
          · replace J : V w #[.int .i64 k0, .int .i64 k1, .int .i64 k2, .int .i64 k3] #[.int .i64 g0, .int .i64 g1, .int .i64 g2, .int .i64 g3] d p (fill (.string ⟨#[]⟩) (.string S0) (.string S1) (.string S2) (.string S3) 4) (fill (.int .i64 0) (.int .i64 ((S0.size : Int) - (L0 : Int))) (.int .i64 ((S1.size : Int) - (L1 : Int))) (.int .i64 ((S2.size : Int) - (L2 : Int))) (.int .i64 ((S3.size : Int) - (L3 : Int))) 4) wr := J
            obtain ⟨⟨a0, a1, a2, a3⟩, _⟩ := four_cells J.kp
            go_wp2_with fail
            refine (D.Crash_made _ d k0 k1 k2 k3 _ J.dk hf hm).mono ?_; rintro e w3 ⟨rfl, T3⟩
            have J3 := new_third (J.turn T3) (fill (.string ⟨#[]⟩) (.string R0) (.string R1) (.string R2) (.string R3) 0)
            clear T3 J a0 a1 a2 a3
            generalize hq : w3.heap.size = q at J3
            go_wp2_with fail
            generalize hW : w3.alloc (Obj.cells #[.string ⟨#[]⟩, .string ⟨#[]⟩, .string ⟨#[]⟩, .string ⟨#[]⟩] 75) = wq
            replace J3 : V2 w #[.int .i64 k0, .int .i64 k1, .int .i64 k2, .int .i64 k3] #[.int .i64 g0, .int .i64 g1, .int .i64 g2, .int .i64 g3] (D.crash d k0 k1 k2 k3) p (fill (.string ⟨#[]⟩) (.string S0) (.string S1) (.string S2) (.string S3) 4) (fill (.int .i64 0) (.int .i64 ((S0.size : Int) - (L0 : Int))) (.int .i64 ((S1.size : Int) - (L1 : Int))) (.int .i64 ((S2.size : Int) - (L2 : Int))) (.int .i64 ((S3.size : Int) - (L3 : Int))) 4) q (fill (.string ⟨#[]⟩) (.string R0) (.string R1) (.string R2) (.string R3) 0) wq := by rw [← hW]; exact J3
            clear hW hq
            go_loopw [19] (fun i wz => ∃ n : Int, 0 ≤ n ∧ n ≤ 4 ∧ i = .int .i64 n ∧ V2 w #[.int .i64 k0, .int .i64 k1, .int .i64 k2, .int .i64 k3] #[.int .i64 g0, .int .i64 g1, .int .i64 g2, .int .i64 g3] (D.crash d k0 k1 k2 k3) p (fill (.string ⟨#[]⟩) (.string S0) (.string S1) (.string S2) (.string S3) 4) (fill (.int .i64 0) (.int .i64 ((S0.size : Int) - (L0 : Int))) (.int .i64 ((S1.size : Int) - (L1 : Int))) (.int .i64 ((S2.size : Int) - (L2 : Int))) (.int .i64 ((S3.size : Int) - (L3 : Int))) 4) q (fill (.string ⟨#[]⟩) (.string R0) (.string R1) (.string R2) (.string R3) n.toNat) wz) (fun i _ => (4 - intOf i).toNat)
            case atStart => exact ⟨0, by omega, by omega, rfl, J3⟩
            case round =>
              clear J3
              obtain ⟨n, hn0, hn4, rfl, J⟩ := hrel
              obtain rfl | rfl | rfl | rfl | rfl : n = 0 ∨ n = 1 ∨ n = 2 ∨ n = 3 ∨ n = 4 := by omega
              · replace J : V2 w #[.int .i64 k0, .int .i64 k1, .int .i64 k2, .int .i64 k3] #[.int .i64 g0, .int .i64 g1, .int .i64 g2, .int .i64 g3] (D.crash d k0 k1 k2 k3) p (fill (.string ⟨#[]⟩) (.string S0) (.string S1) (.string S2) (.string S3) 4) (fill (.int .i64 0) (.int .i64 ((S0.size : Int) - (L0 : Int))) (.int .i64 ((S1.size : Int) - (L1 : Int))) (.int .i64 ((S2.size : Int) - (L2 : Int))) (.int .i64 ((S3.size : Int) - (L3 : Int))) 4) q (fill (.string ⟨#[]⟩) (.string R0) (.string R1) (.string R2) (.string R3) 0) wr := J
                go_wp2_with fail
                refine (O0.b.rd _ _ J.v.dk).mono ?_; rintro e w3 ⟨rfl, T3⟩
                have J3 := J.turn T3
                clear T3 J
                obtain ⟨⟨a0, a1, a2, a3⟩, f0, f1, f2, f3⟩ := four_cells J3.lf
                have J4 := J3.putZ 0 (.string R0)
                have Q := O0.b.lt _ _ J4.v.dk
                obtain ⟨⟨b0, b1, b2, b3⟩, _⟩ := four_cells (show _ = some (Obj.cells (fill (.int .i64 0) (.int .i64 ((S0.size : Int) - (L0 : Int))) (.int .i64 ((S1.size : Int) - (L1 : Int))) (.int .i64 ((S2.size : Int) - (L2 : Int))) (.int .i64 ((S3.size : Int) - (L3 : Int))) 4) 59 (0, 0)) from J4.v.sf)
                obtain ⟨⟨c0, c1, c2, c3⟩, _⟩ := four_cells (show _ = some (Obj.cells (fill (.string ⟨#[]⟩) (.string S0) (.string S1) (.string S2) (.string S3) 4) 75 (0, 0)) from J4.v.al)
                clear J3
                go_wp2_with fail
                refine Q.mono ?_; rintro e w4 ⟨rfl, rfl⟩
                go_wp2_with fail
                go_roundw
                case rel => exact ⟨1, by omega, by omega, rfl, J4⟩
                case measure => simp [intOf]
              · replace J : V2 w #[.int .i64 k0, .int .i64 k1, .int .i64 k2, .int .i64 k3] #[.int .i64 g0, .int .i64 g1, .int .i64 g2, .int .i64 g3] (D.crash d k0 k1 k2 k3) p (fill (.string ⟨#[]⟩) (.string S0) (.string S1) (.string S2) (.string S3) 4) (fill (.int .i64 0) (.int .i64 ((S0.size : Int) - (L0 : Int))) (.int .i64 ((S1.size : Int) - (L1 : Int))) (.int .i64 ((S2.size : Int) - (L2 : Int))) (.int .i64 ((S3.size : Int) - (L3 : Int))) 4) q (fill (.string ⟨#[]⟩) (.string R0) (.string R1) (.string R2) (.string R3) 1) wr := J
                go_wp2_with fail
                refine (O1.b.rd _ _ J.v.dk).mono ?_; rintro e w3 ⟨rfl, T3⟩
                have J3 := J.turn T3
                clear T3 J
                obtain ⟨⟨a0, a1, a2, a3⟩, f0, f1, f2, f3⟩ := four_cells J3.lf
                have J4 := J3.putZ 1 (.string R1)
                have Q := O1.b.lt _ _ J4.v.dk
                obtain ⟨⟨b0, b1, b2, b3⟩, _⟩ := four_cells (show _ = some (Obj.cells (fill (.int .i64 0) (.int .i64 ((S0.size : Int) - (L0 : Int))) (.int .i64 ((S1.size : Int) - (L1 : Int))) (.int .i64 ((S2.size : Int) - (L2 : Int))) (.int .i64 ((S3.size : Int) - (L3 : Int))) 4) 59 (0, 0)) from J4.v.sf)
                obtain ⟨⟨c0, c1, c2, c3⟩, _⟩ := four_cells (show _ = some (Obj.cells (fill (.string ⟨#[]⟩) (.string S0) (.string S1) (.string S2) (.string S3) 4) 75 (0, 0)) from J4.v.al)
                clear J3
                go_wp2_with fail
                refine Q.mono ?_; rintro e w4 ⟨rfl, rfl⟩
                go_wp2_with fail
                go_roundw
                case rel => exact ⟨2, by omega, by omega, rfl, J4⟩
                case measure => simp [intOf]
              · replace J : V2 w #[.int .i64 k0, .int .i64 k1, .int .i64 k2, .int .i64 k3] #[.int .i64 g0, .int .i64 g1, .int .i64 g2, .int .i64 g3] (D.crash d k0 k1 k2 k3) p (fill (.string ⟨#[]⟩) (.string S0) (.string S1) (.string S2) (.string S3) 4) (fill (.int .i64 0) (.int .i64 ((S0.size : Int) - (L0 : Int))) (.int .i64 ((S1.size : Int) - (L1 : Int))) (.int .i64 ((S2.size : Int) - (L2 : Int))) (.int .i64 ((S3.size : Int) - (L3 : Int))) 4) q (fill (.string ⟨#[]⟩) (.string R0) (.string R1) (.string R2) (.string R3) 2) wr := J
                go_wp2_with fail
                refine (O2.b.rd _ _ J.v.dk).mono ?_; rintro e w3 ⟨rfl, T3⟩
                have J3 := J.turn T3
                clear T3 J
                obtain ⟨⟨a0, a1, a2, a3⟩, f0, f1, f2, f3⟩ := four_cells J3.lf
                have J4 := J3.putZ 2 (.string R2)
                have Q := O2.b.lt _ _ J4.v.dk
                obtain ⟨⟨b0, b1, b2, b3⟩, _⟩ := four_cells (show _ = some (Obj.cells (fill (.int .i64 0) (.int .i64 ((S0.size : Int) - (L0 : Int))) (.int .i64 ((S1.size : Int) - (L1 : Int))) (.int .i64 ((S2.size : Int) - (L2 : Int))) (.int .i64 ((S3.size : Int) - (L3 : Int))) 4) 59 (0, 0)) from J4.v.sf)
                obtain ⟨⟨c0, c1, c2, c3⟩, _⟩ := four_cells (show _ = some (Obj.cells (fill (.string ⟨#[]⟩) (.string S0) (.string S1) (.string S2) (.string S3) 4) 75 (0, 0)) from J4.v.al)
                clear J3
                go_wp2_with fail
                refine Q.mono ?_; rintro e w4 ⟨rfl, rfl⟩
                go_wp2_with fail
                go_roundw
                case rel => exact ⟨3, by omega, by omega, rfl, J4⟩
                case measure => simp [intOf]
              · replace J : V2 w #[.int .i64 k0, .int .i64 k1, .int .i64 k2, .int .i64 k3] #[.int .i64 g0, .int .i64 g1, .int .i64 g2, .int .i64 g3] (D.crash d k0 k1 k2 k3) p (fill (.string ⟨#[]⟩) (.string S0) (.string S1) (.string S2) (.string S3) 4) (fill (.int .i64 0) (.int .i64 ((S0.size : Int) - (L0 : Int))) (.int .i64 ((S1.size : Int) - (L1 : Int))) (.int .i64 ((S2.size : Int) - (L2 : Int))) (.int .i64 ((S3.size : Int) - (L3 : Int))) 4) q (fill (.string ⟨#[]⟩) (.string R0) (.string R1) (.string R2) (.string R3) 3) wr := J
                go_wp2_with fail
                refine (O3.b.rd _ _ J.v.dk).mono ?_; rintro e w3 ⟨rfl, T3⟩
                have J3 := J.turn T3
                clear T3 J
                obtain ⟨⟨a0, a1, a2, a3⟩, f0, f1, f2, f3⟩ := four_cells J3.lf
                have J4 := J3.putZ 3 (.string R3)
                have Q := O3.b.lt _ _ J4.v.dk
                obtain ⟨⟨b0, b1, b2, b3⟩, _⟩ := four_cells (show _ = some (Obj.cells (fill (.int .i64 0) (.int .i64 ((S0.size : Int) - (L0 : Int))) (.int .i64 ((S1.size : Int) - (L1 : Int))) (.int .i64 ((S2.size : Int) - (L2 : Int))) (.int .i64 ((S3.size : Int) - (L3 : Int))) 4) 59 (0, 0)) from J4.v.sf)
                obtain ⟨⟨c0, c1, c2, c3⟩, _⟩ := four_cells (show _ = some (Obj.cells (fill (.string ⟨#[]⟩) (.string S0) (.string S1) (.string S2) (.string S3) 4) 75 (0, 0)) from J4.v.al)
                clear J3
                go_wp2_with fail
                refine Q.mono ?_; rintro e w4 ⟨rfl, rfl⟩
                go_wp2_with fail
                go_roundw
                case rel => exact ⟨4, by omega, by omega, rfl, J4⟩
                case measure => simp [intOf]
              · replace J : V2 w #[.int .i64 k0, .int .i64 k1, .int .i64 k2, .int .i64 k3] #[.int .i64 g0, .int .i64 g1, .int .i64 g2, .int .i64 g3] (D.crash d k0 k1 k2 k3) p (fill (.string ⟨#[]⟩) (.string S0) (.string S1) (.string S2) (.string S3) 4) (fill (.int .i64 0) (.int .i64 ((S0.size : Int) - (L0 : Int))) (.int .i64 ((S1.size : Int) - (L1 : Int))) (.int .i64 ((S2.size : Int) - (L2 : Int))) (.int .i64 ((S3.size : Int) - (L3 : Int))) 4) q (fill (.string ⟨#[]⟩) (.string R0) (.string R1) (.string R2) (.string R3) 4) wr := J
                obtain ⟨⟨a0, a1, a2, a3⟩, _⟩ := four_cells J.v.ag
                go_wp2_with fail
                refine (D.Crash_made _ (D.crash d k0 k1 k2 k3) g0 g1 g2 g3 _ J.v.dk hf1 hm).mono ?_; rintro e w3 ⟨rfl, T3⟩
                have J3 := J.turn T3
                clear T3 J a0 a1 a2 a3
                go_wp2_with fail
                go_loopw [22] (fun i wz => ∃ n : Int, 0 ≤ n ∧ n ≤ 4 ∧ i = .int .i64 n ∧ V2 w #[.int .i64 k0, .int .i64 k1, .int .i64 k2, .int .i64 k3] #[.int .i64 g0, .int .i64 g1, .int .i64 g2, .int .i64 g3] (D.crash (D.crash d k0 k1 k2 k3) g0 g1 g2 g3) p (fill (.string ⟨#[]⟩) (.string S0) (.string S1) (.string S2) (.string S3) 4) (fill (.int .i64 0) (.int .i64 ((S0.size : Int) - (L0 : Int))) (.int .i64 ((S1.size : Int) - (L1 : Int))) (.int .i64 ((S2.size : Int) - (L2 : Int))) (.int .i64 ((S3.size : Int) - (L3 : Int))) 4) q (fill (.string ⟨#[]⟩) (.string R0) (.string R1) (.string R2) (.string R3) 4) wz) (fun i _ => (4 - intOf i).toNat)
                case atStart => exact ⟨0, by omega, by omega, rfl, J3⟩
                case round =>
                  clear J3
                  obtain ⟨n, hn0, hn4, rfl, J⟩ := hrel
                  obtain rfl | rfl | rfl | rfl | rfl : n = 0 ∨ n = 1 ∨ n = 2 ∨ n = 3 ∨ n = 4 := by omega
                  · go_wp2_with fail
                    refine (O0.c.rd _ _ J.v.dk).mono ?_; rintro e w3 ⟨rfl, T3⟩
                    have J3 := J.turn T3
                    clear T3 J
                    obtain ⟨⟨a0, a1, a2, a3⟩, _⟩ := four_cells (show _ = some (Obj.cells (fill (.string ⟨#[]⟩) (.string R0) (.string R1) (.string R2) (.string R3) 4) 75 (0, 0)) from J3.lf)
                    go_wp2_with fail
                    go_roundw
                    case rel => exact ⟨1, by omega, by omega, rfl, J3⟩
                    case measure => simp [intOf]
                  · go_wp2_with fail
                    refine (O1.c.rd _ _ J.v.dk).mono ?_; rintro e w3 ⟨rfl, T3⟩
                    have J3 := J.turn T3
                    clear T3 J
                    obtain ⟨⟨a0, a1, a2, a3⟩, _⟩ := four_cells (show _ = some (Obj.cells (fill (.string ⟨#[]⟩) (.string R0) (.string R1) (.string R2) (.string R3) 4) 75 (0, 0)) from J3.lf)
                    go_wp2_with fail
                    go_roundw
                    case rel => exact ⟨2, by omega, by omega, rfl, J3⟩
                    case measure => simp [intOf]
                  · go_wp2_with fail
                    refine (O2.c.rd _ _ J.v.dk).mono ?_; rintro e w3 ⟨rfl, T3⟩
                    have J3 := J.turn T3
                    clear T3 J
                    obtain ⟨⟨a0, a1, a2, a3⟩, _⟩ := four_cells (show _ = some (Obj.cells (fill (.string ⟨#[]⟩) (.string R0) (.string R1) (.string R2) (.string R3) 4) 75 (0, 0)) from J3.lf)
                    go_wp2_with fail
                    go_roundw
                    case rel => exact ⟨3, by omega, by omega, rfl, J3⟩
                    case measure => simp [intOf]
                  · go_wp2_with fail
                    refine (O3.c.rd _ _ J.v.dk).mono ?_; rintro e w3 ⟨rfl, T3⟩
                    have J3 := J.turn T3
                    clear T3 J
                    obtain ⟨⟨a0, a1, a2, a3⟩, _⟩ := four_cells (show _ = some (Obj.cells (fill (.string ⟨#[]⟩) (.string R0) (.string R1) (.string R2) (.string R3) 4) 75 (0, 0)) from J3.lf)
                    go_wp2_with fail
                    go_roundw
                    case rel => exact ⟨4, by omega, by omega, rfl, J3⟩
                    case measure => simp [intOf]
                  · go_wp2_with fail
                    refine (awake_any _).mono ?_; rintro e w6 ⟨rfl, B6⟩
                    go_wp2
                    go_ret
                    exact ⟨rfl, J.v.below.trans (B6.mono (by have := lt_of_block J.v.kp; omega))⟩
    · skip
      obtain ⟨d, hD, hR, hm, hf, hd, hlf⟩ := I.st
      obtain ⟨S0, L0, R0, O0⟩ := one hm hf hd k0 k1 k2 k3 g0 g1 g2 g3 0 (by omega) (by omega)
      obtain ⟨S1, L1, R1, O1⟩ := one hm hf hd k0 k1 k2 k3 g0 g1 g2 g3 1 (by omega) (by omega)
      obtain ⟨S2, L2, R2, O2⟩ := one hm hf hd k0 k1 k2 k3 g0 g1 g2 g3 2 (by omega) (by omega)
      obtain ⟨S3, L3, R3, O3⟩ := one hm hf hd k0 k1 k2 k3 g0 g1 g2 g3 3 (by omega) (by omega)
      have V0 := new_two I.kp I.ag hD I.below (fill (.string ⟨#[]⟩) (.string S0) (.string S1) (.string S2) (.string S3) 0) (fill (.int .i64 0) (.int .i64 ((S0.size : Int) - (L0 : Int))) (.int .i64 ((S1.size : Int) - (L1 : Int))) (.int .i64 ((S2.size : Int) - (L2 : Int))) (.int .i64 ((S3.size : Int) - (L3 : Int))) 0)
      have hf1 := crash_fits hf k0 k1 k2 k3
      clear hD hR hd hlf
      generalize hp : wr.heap.size = p at V0
      go_wp2_with fail
      generalize hW : (wr.alloc (Obj.cells #[.string ⟨#[]⟩, .string ⟨#[]⟩, .string ⟨#[]⟩, .string ⟨#[]⟩] 75)).alloc (Obj.cells #[.int .i64 0, .int .i64 0, .int .i64 0, .int .i64 0] 59) = wq
      replace V0 : V w #[.int .i64 k0, .int .i64 k1, .int .i64 k2, .int .i64 k3] #[.int .i64 g0, .int .i64 g1, .int .i64 g2, .int .i64 g3] d p (fill (.string ⟨#[]⟩) (.string S0) (.string S1) (.string S2) (.string S3) 0) (fill (.int .i64 0) (.int .i64 ((S0.size : Int) - (L0 : Int))) (.int .i64 ((S1.size : Int) - (L1 : Int))) (.int .i64 ((S2.size : Int) - (L2 : Int))) (.int .i64 ((S3.size : Int) - (L3 : Int))) 0) wq := by rw [← hW]; exact V0
      clear hW hp I
      have ll0 := O0.ll
      have m0 := O0.mx
      have e0 := O0.le
      have ge0 := O0.ge
      have x0 := O0.ex
      have u0 : R0.size ≤ 1048576 := by omega
      have ll1 := O1.ll
      have m1 := O1.mx
      have e1 := O1.le
      have ge1 := O1.ge
      have x1 := O1.ex
      have u1 : R1.size ≤ 1048576 := by omega
      have ll2 := O2.ll
      have m2 := O2.mx
      have e2 := O2.le
      have ge2 := O2.ge
      have x2 := O2.ex
      have u2 : R2.size ≤ 1048576 := by omega
      have ll3 := O3.ll
      have m3 := O3.mx
      have e3 := O3.le
      have ge3 := O3.ge
      have x3 := O3.ex
      have u3 : R3.size ≤ 1048576 := by omega
      go_loopw [15] (fun i wz => ∃ n : Int, 0 ≤ n ∧ n ≤ 4 ∧ i = .int .i64 n ∧ V w #[.int .i64 k0, .int .i64 k1, .int .i64 k2, .int .i64 k3] #[.int .i64 g0, .int .i64 g1, .int .i64 g2, .int .i64 g3] d p (fill (.string ⟨#[]⟩) (.string S0) (.string S1) (.string S2) (.string S3) n.toNat) (fill (.int .i64 0) (.int .i64 ((S0.size : Int) - (L0 : Int))) (.int .i64 ((S1.size : Int) - (L1 : Int))) (.int .i64 ((S2.size : Int) - (L2 : Int))) (.int .i64 ((S3.size : Int) - (L3 : Int))) n.toNat) wz) (fun i _ => (4 - intOf i).toNat)
      case atStart => exact ⟨0, by omega, by omega, rfl, V0⟩
      case round =>
        obtain ⟨n, hn0, hn4, rfl, J⟩ := hrel
        obtain rfl | rfl | rfl | rfl | rfl : n = 0 ∨ n = 1 ∨ n = 2 ∨ n = 3 ∨ n = 4 := by omega
        · replace J : V w #[.int .i64 k0, .int .i64 k1, .int .i64 k2, .int .i64 k3] #[.int .i64 g0, .int .i64 g1, .int .i64 g2, .int .i64 g3] d p (fill (.string ⟨#[]⟩) (.string S0) (.string S1) (.string S2) (.string S3) 0) (fill (.int .i64 0) (.int .i64 ((S0.size : Int) - (L0 : Int))) (.int .i64 ((S1.size : Int) - (L1 : Int))) (.int .i64 ((S2.size : Int) - (L2 : Int))) (.int .i64 ((S3.size : Int) - (L3 : Int))) 0) wr := J
          go_wp2_with fail
          refine (O0.a.rd _ _ J.dk).mono ?_; rintro e w3 ⟨rfl, T3⟩
          have J3 := J.turn T3
          clear T3 J
          obtain ⟨⟨a0, a1, a2, a3⟩, f0, f1, f2, f3⟩ := four_cells J3.al
          have J4 := J3.putX 0 (.string S0)
          have Q := O0.a.lt _ _ J4.dk
          obtain ⟨⟨b0, b1, b2, b3⟩, h0, h1, h2, h3⟩ := four_cells (show _ = some (Obj.cells (fill (.int .i64 0) (.int .i64 ((S0.size : Int) - (L0 : Int))) (.int .i64 ((S1.size : Int) - (L1 : Int))) (.int .i64 ((S2.size : Int) - (L2 : Int))) (.int .i64 ((S3.size : Int) - (L3 : Int))) 0) 59 (0, 0)) from J4.sf)
          have J5 := J4.putY 0 (.int .i64 ((S0.size : Int) - (L0 : Int)))
          clear J3
          go_wp2_with fail
          refine Q.mono ?_; rintro e w4 ⟨rfl, rfl⟩
          go_wp2_with fail
          go_roundw
          case rel => exact ⟨1, by omega, by omega, rfl, J5⟩
          case measure => simp [intOf]
        · replace J : V w #[.int .i64 k0, .int .i64 k1, .int .i64 k2, .int .i64 k3] #[.int .i64 g0, .int .i64 g1, .int .i64 g2, .int .i64 g3] d p (fill (.string ⟨#[]⟩) (.string S0) (.string S1) (.string S2) (.string S3) 1) (fill (.int .i64 0) (.int .i64 ((S0.size : Int) - (L0 : Int))) (.int .i64 ((S1.size : Int) - (L1 : Int))) (.int .i64 ((S2.size : Int) - (L2 : Int))) (.int .i64 ((S3.size : Int) - (L3 : Int))) 1) wr := J
          go_wp2_with fail
          refine (O1.a.rd _ _ J.dk).mono ?_; rintro e w3 ⟨rfl, T3⟩
          have J3 := J.turn T3
          clear T3 J
          obtain ⟨⟨a0, a1, a2, a3⟩, f0, f1, f2, f3⟩ := four_cells J3.al
          have J4 := J3.putX 1 (.string S1)
          have Q := O1.a.lt _ _ J4.dk
          obtain ⟨⟨b0, b1, b2, b3⟩, h0, h1, h2, h3⟩ := four_cells (show _ = some (Obj.cells (fill (.int .i64 0) (.int .i64 ((S0.size : Int) - (L0 : Int))) (.int .i64 ((S1.size : Int) - (L1 : Int))) (.int .i64 ((S2.size : Int) - (L2 : Int))) (.int .i64 ((S3.size : Int) - (L3 : Int))) 1) 59 (0, 0)) from J4.sf)
          have J5 := J4.putY 1 (.int .i64 ((S1.size : Int) - (L1 : Int)))
          clear J3
          go_wp2_with fail
          refine Q.mono ?_; rintro e w4 ⟨rfl, rfl⟩
          go_wp2_with fail
          go_roundw
          case rel => exact ⟨2, by omega, by omega, rfl, J5⟩
          case measure => simp [intOf]
        · replace J : V w #[.int .i64 k0, .int .i64 k1, .int .i64 k2, .int .i64 k3] #[.int .i64 g0, .int .i64 g1, .int .i64 g2, .int .i64 g3] d p (fill (.string ⟨#[]⟩) (.string S0) (.string S1) (.string S2) (.string S3) 2) (fill (.int .i64 0) (.int .i64 ((S0.size : Int) - (L0 : Int))) (.int .i64 ((S1.size : Int) - (L1 : Int))) (.int .i64 ((S2.size : Int) - (L2 : Int))) (.int .i64 ((S3.size : Int) - (L3 : Int))) 2) wr := J
          go_wp2_with fail
          refine (O2.a.rd _ _ J.dk).mono ?_; rintro e w3 ⟨rfl, T3⟩
          have J3 := J.turn T3
          clear T3 J
          obtain ⟨⟨a0, a1, a2, a3⟩, f0, f1, f2, f3⟩ := four_cells J3.al
          have J4 := J3.putX 2 (.string S2)
          have Q := O2.a.lt _ _ J4.dk
          obtain ⟨⟨b0, b1, b2, b3⟩, h0, h1, h2, h3⟩ := four_cells (show _ = some (Obj.cells (fill (.int .i64 0) (.int .i64 ((S0.size : Int) - (L0 : Int))) (.int .i64 ((S1.size : Int) - (L1 : Int))) (.int .i64 ((S2.size : Int) - (L2 : Int))) (.int .i64 ((S3.size : Int) - (L3 : Int))) 2) 59 (0, 0)) from J4.sf)
          have J5 := J4.putY 2 (.int .i64 ((S2.size : Int) - (L2 : Int)))
          clear J3
          go_wp2_with fail
          refine Q.mono ?_; rintro e w4 ⟨rfl, rfl⟩
          go_wp2_with fail
          go_roundw
          case rel => exact ⟨3, by omega, by omega, rfl, J5⟩
          case measure => simp [intOf]
        · replace J : V w #[.int .i64 k0, .int .i64 k1, .int .i64 k2, .int .i64 k3] #[.int .i64 g0, .int .i64 g1, .int .i64 g2, .int .i64 g3] d p (fill (.string ⟨#[]⟩) (.string S0) (.string S1) (.string S2) (.string S3) 3) (fill (.int .i64 0) (.int .i64 ((S0.size : Int) - (L0 : Int))) (.int .i64 ((S1.size : Int) - (L1 : Int))) (.int .i64 ((S2.size : Int) - (L2 : Int))) (.int .i64 ((S3.size : Int) - (L3 : Int))) 3) wr := J
          go_wp2_with fail
          refine (O3.a.rd _ _ J.dk).mono ?_; rintro e w3 ⟨rfl, T3⟩
          have J3 := J.turn T3
          clear T3 J
          obtain ⟨⟨a0, a1, a2, a3⟩, f0, f1, f2, f3⟩ := four_cells J3.al
          have J4 := J3.putX 3 (.string S3)
          have Q := O3.a.lt _ _ J4.dk
          obtain ⟨⟨b0, b1, b2, b3⟩, h0, h1, h2, h3⟩ := four_cells (show _ = some (Obj.cells (fill (.int .i64 0) (.int .i64 ((S0.size : Int) - (L0 : Int))) (.int .i64 ((S1.size : Int) - (L1 : Int))) (.int .i64 ((S2.size : Int) - (L2 : Int))) (.int .i64 ((S3.size : Int) - (L3 : Int))) 3) 59 (0, 0)) from J4.sf)
          have J5 := J4.putY 3 (.int .i64 ((S3.size : Int) - (L3 : Int)))
          clear J3
          go_wp2_with fail
          refine Q.mono ?_; rintro e w4 ⟨rfl, rfl⟩
          go_wp2_with fail
          go_roundw
          case rel => exact ⟨4, by omega, by omega, rfl, J5⟩
          case measure => simp [intOf]
        · replace J : V w #[.int .i64 k0, .int .i64 k1, .int .i64 k2, .int .i64 k3] #[.int .i64 g0, .int .i64 g1, .int .i64 g2, .int .i64 g3] d p (fill (.string ⟨#[]⟩) (.string S0) (.string S1) (.string S2) (.string S3) 4) (fill (.int .i64 0) (.int .i64 ((S0.size : Int) - (L0 : Int))) (.int .i64 ((S1.size : Int) - (L1 : Int))) (.int .i64 ((S2.size : Int) - (L2 : Int))) (.int .i64 ((S3.size : Int) - (L3 : Int))) 4) wr := J
          obtain ⟨⟨a0, a1, a2, a3⟩, _⟩ := four_cells J.kp
          go_wp2_with fail
          refine (D.Crash_made _ d k0 k1 k2 k3 _ J.dk hf hm).mono ?_; rintro e w3 ⟨rfl, T3⟩
          have J3 := new_third (J.turn T3) (fill (.string ⟨#[]⟩) (.string R0) (.string R1) (.string R2) (.string R3) 0)
          clear T3 J a0 a1 a2 a3
          generalize hq : w3.heap.size = q at J3
          go_wp2_with fail
          generalize hW : w3.alloc (Obj.cells #[.string ⟨#[]⟩, .string ⟨#[]⟩, .string ⟨#[]⟩, .string ⟨#[]⟩] 75) = wq
          replace J3 : V2 w #[.int .i64 k0, .int .i64 k1, .int .i64 k2, .int .i64 k3] #[.int .i64 g0, .int .i64 g1, .int .i64 g2, .int .i64 g3] (D.crash d k0 k1 k2 k3) p (fill (.string ⟨#[]⟩) (.string S0) (.string S1) (.string S2) (.string S3) 4) (fill (.int .i64 0) (.int .i64 ((S0.size : Int) - (L0 : Int))) (.int .i64 ((S1.size : Int) - (L1 : Int))) (.int .i64 ((S2.size : Int) - (L2 : Int))) (.int .i64 ((S3.size : Int) - (L3 : Int))) 4) q (fill (.string ⟨#[]⟩) (.string R0) (.string R1) (.string R2) (.string R3) 0) wq := by rw [← hW]; exact J3
          clear hW hq
          go_loopw [19] (fun i wz => ∃ n : Int, 0 ≤ n ∧ n ≤ 4 ∧ i = .int .i64 n ∧ V2 w #[.int .i64 k0, .int .i64 k1, .int .i64 k2, .int .i64 k3] #[.int .i64 g0, .int .i64 g1, .int .i64 g2, .int .i64 g3] (D.crash d k0 k1 k2 k3) p (fill (.string ⟨#[]⟩) (.string S0) (.string S1) (.string S2) (.string S3) 4) (fill (.int .i64 0) (.int .i64 ((S0.size : Int) - (L0 : Int))) (.int .i64 ((S1.size : Int) - (L1 : Int))) (.int .i64 ((S2.size : Int) - (L2 : Int))) (.int .i64 ((S3.size : Int) - (L3 : Int))) 4) q (fill (.string ⟨#[]⟩) (.string R0) (.string R1) (.string R2) (.string R3) n.toNat) wz) (fun i _ => (4 - intOf i).toNat)
          case atStart => exact ⟨0, by omega, by omega, rfl, J3⟩
          case round =>
            clear J3
            obtain ⟨n, hn0, hn4, rfl, J⟩ := hrel
            obtain rfl | rfl | rfl | rfl | rfl : n = 0 ∨ n = 1 ∨ n = 2 ∨ n = 3 ∨ n = 4 := by omega
            · replace J : V2 w #[.int .i64 k0, .int .i64 k1, .int .i64 k2, .int .i64 k3] #[.int .i64 g0, .int .i64 g1, .int .i64 g2, .int .i64 g3] (D.crash d k0 k1 k2 k3) p (fill (.string ⟨#[]⟩) (.string S0) (.string S1) (.string S2) (.string S3) 4) (fill (.int .i64 0) (.int .i64 ((S0.size : Int) - (L0 : Int))) (.int .i64 ((S1.size : Int) - (L1 : Int))) (.int .i64 ((S2.size : Int) - (L2 : Int))) (.int .i64 ((S3.size : Int) - (L3 : Int))) 4) q (fill (.string ⟨#[]⟩) (.string R0) (.string R1) (.string R2) (.string R3) 0) wr := J
              go_wp2_with fail
              refine (O0.b.rd _ _ J.v.dk).mono ?_; rintro e w3 ⟨rfl, T3⟩
              have J3 := J.turn T3
              clear T3 J
              obtain ⟨⟨a0, a1, a2, a3⟩, f0, f1, f2, f3⟩ := four_cells J3.lf
              have J4 := J3.putZ 0 (.string R0)
              have Q := O0.b.lt _ _ J4.v.dk
              obtain ⟨⟨b0, b1, b2, b3⟩, _⟩ := four_cells (show _ = some (Obj.cells (fill (.int .i64 0) (.int .i64 ((S0.size : Int) - (L0 : Int))) (.int .i64 ((S1.size : Int) - (L1 : Int))) (.int .i64 ((S2.size : Int) - (L2 : Int))) (.int .i64 ((S3.size : Int) - (L3 : Int))) 4) 59 (0, 0)) from J4.v.sf)
              obtain ⟨⟨c0, c1, c2, c3⟩, _⟩ := four_cells (show _ = some (Obj.cells (fill (.string ⟨#[]⟩) (.string S0) (.string S1) (.string S2) (.string S3) 4) 75 (0, 0)) from J4.v.al)
              clear J3
              go_wp2_with fail
              refine Q.mono ?_; rintro e w4 ⟨rfl, rfl⟩
              go_wp2_with fail
              go_roundw
              case rel => exact ⟨1, by omega, by omega, rfl, J4⟩
              case measure => simp [intOf]
            · replace J : V2 w #[.int .i64 k0, .int .i64 k1, .int .i64 k2, .int .i64 k3] #[.int .i64 g0, .int .i64 g1, .int .i64 g2, .int .i64 g3] (D.crash d k0 k1 k2 k3) p (fill (.string ⟨#[]⟩) (.string S0) (.string S1) (.string S2) (.string S3) 4) (fill (.int .i64 0) (.int .i64 ((S0.size : Int) - (L0 : Int))) (.int .i64 ((S1.size : Int) - (L1 : Int))) (.int .i64 ((S2.size : Int) - (L2 : Int))) (.int .i64 ((S3.size : Int) - (L3 : Int))) 4) q (fill (.string ⟨#[]⟩) (.string R0) (.string R1) (.string R2) (.string R3) 1) wr := J
              go_wp2_with fail
              refine (O1.b.rd _ _ J.v.dk).mono ?_; rintro e w3 ⟨rfl, T3⟩
              have J3 := J.turn T3
              clear T3 J
              obtain ⟨⟨a0, a1, a2, a3⟩, f0, f1, f2, f3⟩ := four_cells J3.lf
              have J4 := J3.putZ 1 (.string R1)
              have Q := O1.b.lt _ _ J4.v.dk
              obtain ⟨⟨b0, b1, b2, b3⟩, _⟩ := four_cells (show _ = some (Obj.cells (fill (.int .i64 0) (.int .i64 ((S0.size : Int) - (L0 : Int))) (.int .i64 ((S1.size : Int) - (L1 : Int))) (.int .i64 ((S2.size : Int) - (L2 : Int))) (.int .i64 ((S3.size : Int) - (L3 : Int))) 4) 59 (0, 0)) from J4.v.sf)
              obtain ⟨⟨c0, c1, c2, c3⟩, _⟩ := four_cells (show _ = some (Obj.cells (fill (.string ⟨#[]⟩) (.string S0) (.string S1) (.string S2) (.string S3) 4) 75 (0, 0)) from J4.v.al)
              clear J3
              go_wp2_with fail
              refine Q.mono ?_; rintro e w4 ⟨rfl, rfl⟩
              go_wp2_with fail
              go_roundw
              case rel => exact ⟨2, by omega, by omega, rfl, J4⟩
              case measure => simp [intOf]
            · replace J : V2 w #[.int .i64 k0, .int .i64 k1, .int .i64 k2, .int .i64 k3] #[.int .i64 g0, .int .i64 g1, .int .i64 g2, .int .i64 g3] (D.crash d k0 k1 k2 k3) p (fill (.string ⟨#[]⟩) (.string S0) (.string S1) (.string S2) (.string S3) 4) (fill (.int .i64 0) (.int .i64 ((S0.size : Int) - (L0 : Int))) (.int .i64 ((S1.size : Int) - (L1 : Int))) (.int .i64 ((S2.size : Int) - (L2 : Int))) (.int .i64 ((S3.size : Int) - (L3 : Int))) 4) q (fill (.string ⟨#[]⟩) (.string R0) (.string R1) (.string R2) (.string R3) 2) wr := J
              go_wp2_with fail
              refine (O2.b.rd _ _ J.v.dk).mono ?_; rintro e w3 ⟨rfl, T3⟩
              have J3 := J.turn T3
              clear T3 J
              obtain ⟨⟨a0, a1, a2, a3⟩, f0, f1, f2, f3⟩ := four_cells J3.lf
              have J4 := J3.putZ 2 (.string R2)
              have Q := O2.b.lt _ _ J4.v.dk
              obtain ⟨⟨b0, b1, b2, b3⟩, _⟩ := four_cells (show _ = some (Obj.cells (fill (.int .i64 0) (.int .i64 ((S0.size : Int) - (L0 : Int))) (.int .i64 ((S1.size : Int) - (L1 : Int))) (.int .i64 ((S2.size : Int) - (L2 : Int))) (.int .i64 ((S3.size : Int) - (L3 : Int))) 4) 59 (0, 0)) from J4.v.sf)
              obtain ⟨⟨c0, c1, c2, c3⟩, _⟩ := four_cells (show _ = some (Obj.cells (fill (.string ⟨#[]⟩) (.string S0) (.string S1) (.string S2) (.string S3) 4) 75 (0, 0)) from J4.v.al)
              clear J3
              go_wp2_with fail
              refine Q.mono ?_; rintro e w4 ⟨rfl, rfl⟩
              go_wp2_with fail
              go_roundw
              case rel => exact ⟨3, by omega, by omega, rfl, J4⟩
              case measure => simp [intOf]
            · replace J : V2 w #[.int .i64 k0, .int .i64 k1, .int .i64 k2, .int .i64 k3] #[.int .i64 g0, .int .i64 g1, .int .i64 g2, .int .i64 g3] (D.crash d k0 k1 k2 k3) p (fill (.string ⟨#[]⟩) (.string S0) (.string S1) (.string S2) (.string S3) 4) (fill (.int .i64 0) (.int .i64 ((S0.size : Int) - (L0 : Int))) (.int .i64 ((S1.size : Int) - (L1 : Int))) (.int .i64 ((S2.size : Int) - (L2 : Int))) (.int .i64 ((S3.size : Int) - (L3 : Int))) 4) q (fill (.string ⟨#[]⟩) (.string R0) (.string R1) (.string R2) (.string R3) 3) wr := J
              go_wp2_with fail
              refine (O3.b.rd _ _ J.v.dk).mono ?_; rintro e w3 ⟨rfl, T3⟩
              have J3 := J.turn T3
              clear T3 J
              obtain ⟨⟨a0, a1, a2, a3⟩, f0, f1, f2, f3⟩ := four_cells J3.lf
              have J4 := J3.putZ 3 (.string R3)
              have Q := O3.b.lt _ _ J4.v.dk
              obtain ⟨⟨b0, b1, b2, b3⟩, _⟩ := four_cells (show _ = some (Obj.cells (fill (.int .i64 0) (.int .i64 ((S0.size : Int) - (L0 : Int))) (.int .i64 ((S1.size : Int) - (L1 : Int))) (.int .i64 ((S2.size : Int) - (L2 : Int))) (.int .i64 ((S3.size : Int) - (L3 : Int))) 4) 59 (0, 0)) from J4.v.sf)
              obtain ⟨⟨c0, c1, c2, c3⟩, _⟩ := four_cells (show _ = some (Obj.cells (fill (.string ⟨#[]⟩) (.string S0) (.string S1) (.string S2) (.string S3) 4) 75 (0, 0)) from J4.v.al)
              clear J3
              go_wp2_with fail
              refine Q.mono ?_; rintro e w4 ⟨rfl, rfl⟩
              go_wp2_with fail
              go_roundw
              case rel => exact ⟨4, by omega, by omega, rfl, J4⟩
              case measure => simp [intOf]
            · replace J : V2 w #[.int .i64 k0, .int .i64 k1, .int .i64 k2, .int .i64 k3] #[.int .i64 g0, .int .i64 g1, .int .i64 g2, .int .i64 g3] (D.crash d k0 k1 k2 k3) p (fill (.string ⟨#[]⟩) (.string S0) (.string S1) (.string S2) (.string S3) 4) (fill (.int .i64 0) (.int .i64 ((S0.size : Int) - (L0 : Int))) (.int .i64 ((S1.size : Int) - (L1 : Int))) (.int .i64 ((S2.size : Int) - (L2 : Int))) (.int .i64 ((S3.size : Int) - (L3 : Int))) 4) q (fill (.string ⟨#[]⟩) (.string R0) (.string R1) (.string R2) (.string R3) 4) wr := J
              obtain ⟨⟨a0, a1, a2, a3⟩, _⟩ := four_cells J.v.ag
              go_wp2_with fail
              refine (D.Crash_made _ (D.crash d k0 k1 k2 k3) g0 g1 g2 g3 _ J.v.dk hf1 hm).mono ?_; rintro e w3 ⟨rfl, T3⟩
              have J3 := J.turn T3
              clear T3 J a0 a1 a2 a3
              go_wp2_with fail
              go_loopw [22] (fun i wz => ∃ n : Int, 0 ≤ n ∧ n ≤ 4 ∧ i = .int .i64 n ∧ V2 w #[.int .i64 k0, .int .i64 k1, .int .i64 k2, .int .i64 k3] #[.int .i64 g0, .int .i64 g1, .int .i64 g2, .int .i64 g3] (D.crash (D.crash d k0 k1 k2 k3) g0 g1 g2 g3) p (fill (.string ⟨#[]⟩) (.string S0) (.string S1) (.string S2) (.string S3) 4) (fill (.int .i64 0) (.int .i64 ((S0.size : Int) - (L0 : Int))) (.int .i64 ((S1.size : Int) - (L1 : Int))) (.int .i64 ((S2.size : Int) - (L2 : Int))) (.int .i64 ((S3.size : Int) - (L3 : Int))) 4) q (fill (.string ⟨#[]⟩) (.string R0) (.string R1) (.string R2) (.string R3) 4) wz) (fun i _ => (4 - intOf i).toNat)
              case atStart => exact ⟨0, by omega, by omega, rfl, J3⟩
              case round =>
                clear J3
                obtain ⟨n, hn0, hn4, rfl, J⟩ := hrel
                obtain rfl | rfl | rfl | rfl | rfl : n = 0 ∨ n = 1 ∨ n = 2 ∨ n = 3 ∨ n = 4 := by omega
                · go_wp2_with fail
                  refine (O0.c.rd _ _ J.v.dk).mono ?_; rintro e w3 ⟨rfl, T3⟩
                  have J3 := J.turn T3
                  clear T3 J
                  obtain ⟨⟨a0, a1, a2, a3⟩, _⟩ := four_cells (show _ = some (Obj.cells (fill (.string ⟨#[]⟩) (.string R0) (.string R1) (.string R2) (.string R3) 4) 75 (0, 0)) from J3.lf)
                  go_wp2_with fail
                  go_roundw
                  case rel => exact ⟨1, by omega, by omega, rfl, J3⟩
                  case measure => simp [intOf]
                · go_wp2_with fail
                  refine (O1.c.rd _ _ J.v.dk).mono ?_; rintro e w3 ⟨rfl, T3⟩
                  have J3 := J.turn T3
                  clear T3 J
                  obtain ⟨⟨a0, a1, a2, a3⟩, _⟩ := four_cells (show _ = some (Obj.cells (fill (.string ⟨#[]⟩) (.string R0) (.string R1) (.string R2) (.string R3) 4) 75 (0, 0)) from J3.lf)
                  go_wp2_with fail
                  go_roundw
                  case rel => exact ⟨2, by omega, by omega, rfl, J3⟩
                  case measure => simp [intOf]
                · go_wp2_with fail
                  refine (O2.c.rd _ _ J.v.dk).mono ?_; rintro e w3 ⟨rfl, T3⟩
                  have J3 := J.turn T3
                  clear T3 J
                  obtain ⟨⟨a0, a1, a2, a3⟩, _⟩ := four_cells (show _ = some (Obj.cells (fill (.string ⟨#[]⟩) (.string R0) (.string R1) (.string R2) (.string R3) 4) 75 (0, 0)) from J3.lf)
                  go_wp2_with fail
                  go_roundw
                  case rel => exact ⟨3, by omega, by omega, rfl, J3⟩
                  case measure => simp [intOf]
                · go_wp2_with fail
                  refine (O3.c.rd _ _ J.v.dk).mono ?_; rintro e w3 ⟨rfl, T3⟩
                  have J3 := J.turn T3
                  clear T3 J
                  obtain ⟨⟨a0, a1, a2, a3⟩, _⟩ := four_cells (show _ = some (Obj.cells (fill (.string ⟨#[]⟩) (.string R0) (.string R1) (.string R2) (.string R3) 4) 75 (0, 0)) from J3.lf)
                  go_wp2_with fail
                  go_roundw
                  case rel => exact ⟨4, by omega, by omega, rfl, J3⟩
                  case measure => simp [intOf]
                · go_wp2_with fail
                  refine (awake_any _).mono ?_; rintro e w6 ⟨rfl, B6⟩
                  go_wp2
                  go_ret
                  exact ⟨rfl, J.v.below.trans (B6.mono (by have := lt_of_block J.v.kp; omega))⟩
end Go.Proofs.Ytejfdiiennnjjaa.R
