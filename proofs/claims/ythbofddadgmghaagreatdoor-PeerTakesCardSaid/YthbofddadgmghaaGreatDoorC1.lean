/- The law PeerTakes: its walk. -/
import Derived.Test.YthbofddadgmghaaGreatDoorB9
set_option linter.unusedVariables false
set_option linter.unusedSimpArgs false
namespace Go.Proofs.YthbofddadgmghaaGreatDoor
open Go.RowKit Go.Shelf

def rep (x : List UInt8) : Nat → List UInt8
  | 0 => []
  | n + 1 => rep x n ++ x
theorem rep_len (x : List UInt8) : ∀ n, (rep x n).length = n * x.length
  | 0 => by simp [rep]
  | n + 1 => by rw [rep, List.length_append, rep_len x n, Nat.add_mul]; omega
def headL : List UInt8 := [69, 72, 76, 79, 32, 104, 13, 10, 77, 65, 73, 76, 32, 70, 82, 79, 77, 58, 60, 97, 64, 98, 62, 13, 10, 82, 67, 80, 84, 32, 84, 79, 58, 60, 99, 64, 100, 62].append [13, 10, 82, 67, 80, 84, 32, 84, 79, 58, 60, 101, 64, 100, 62, 13, 10, 82, 67, 80, 84, 32, 84, 79, 58, 60, 102, 64, 100, 62, 13, 10, 68, 65, 84, 65, 13, 10]
def tailL : List UInt8 := [46, 13, 10, 81, 85, 73, 84, 13, 10]
def takesIn (n : Nat) : List UInt8 := headL ++ rep [46, 46, 120, 13, 10] n ++ tailL
def codesL : List Int := [250, 550, 250, 250, 451]
def saysT : List UInt8 := [50, 53, 48, 32, 111, 107, 13, 10, 50, 53, 48, 32, 111, 107, 13, 10, 53, 53, 48, 32, 110, 111, 13, 10, 50, 53, 48, 32, 111, 107, 13, 10, 50, 53, 48, 32, 111, 107, 13, 10, 51, 53, 52, 32, 103, 111, 32, 111, 110, 13, 10, 52, 53, 49, 32, 110, 111, 13, 10, 50, 53, 48, 32, 111, 107, 13, 10, 50, 50, 49, 32, 98, 121, 101, 13, 10]
def saysF : List UInt8 := [50, 53, 48, 32, 111, 107, 13, 10, 50, 53, 48, 32, 111, 107, 13, 10, 53, 53, 48, 32, 110, 111, 13, 10, 50, 53, 48, 32, 111, 107, 13, 10, 50, 53, 48, 32, 111, 107, 13, 10, 51, 53, 52, 32, 103, 111, 32, 111, 110, 13, 10, 52, 53, 49, 32, 110, 111, 13, 10, 50, 50, 49, 32, 98, 121, 101, 13, 10]
theorem takes_T : ∀ k : Fin 5, ((PeerS.new true codesL).hear (takesIn (k.1 + 1))).out = saysT ∧ ((PeerS.new true codesL).hear (takesIn (k.1 + 1))).got = [[97, 64, 98], [102, 64, 100], rep [46, 120, 13, 10] (k.1 + 1)] := by decide +kernel
theorem takes_F : ∀ k : Fin 5, ((PeerS.new false codesL).hear (takesIn (k.1 + 1))).out = saysF ∧ ((PeerS.new false codesL).hear (takesIn (k.1 + 1))).got = [] := by decide +kernel

theorem intsNew (w : World) (l : List Int) (cs : Array Value) (c : Nat) (h : ∀ i (hi : i < l.length), cs[i]? = some (.int .i64 l[i])) : IsInts (w.alloc (.cells cs 3)) (.slice (some ⟨w.heap.size, 0, none⟩) l.length c) l := by
  refine .inr ⟨w.heap.size, 0, c, rfl, fun i hi => ?_⟩
  rw [cell_alloc_new]
  simpa using h i hi
theorem codesCells : ∀ i (hi : i < codesL.length), (#[.int .i64 250, .int .i64 550, .int .i64 250, .int .i64 250, .int .i64 451] : Array Value)[i]? = some (.int .i64 codesL[i]) := by
  intro i hi
  match i, hi with
  | 0, _ => rfl
  | 1, _ => rfl
  | 2, _ => rfl
  | 3, _ => rfl
  | 4, _ => rfl
  | i + 5, hi => simp [codesL] at hi; omega

theorem convBytes (w : World) (s : ByteArray) (cap : Nat) (fr : Nat × Nat) (l : List UInt8) (hl : bl s = l) : Below w.heap.size w (w.drew.alloc (.cells (bytesRow s cap) 5 fr)) ∧ ∀ c, IsBytes (w.drew.alloc (.cells (bytesRow s cap) 5 fr)) (.slice (some ⟨w.heap.size, 0, none⟩) l.length c) l := by
  subst hl
  refine ⟨(Below.refl w.heap.size w).drew.alloc (Nat.le_refl _) _, fun c => ?_⟩
  refine bytesNew w.drew (bl s) (bytesRow s cap) fr c fun i hi => ?_
  rw [bytesRow_at s cap i (by simpa [bl] using hi)]
  simp [bl]
theorem takesIn_len (n : Nat) : (takesIn n).length = 76 + n * 5 + 9 := by unfold takesIn; rw [List.length_append, List.length_append, rep_len]; rfl

set_option maxHeartbeats 2000000 in
set_option maxRecDepth 8000 in
theorem takes_walk (lm : Bool) (ar ao : Option Addr) (nr cr n c : Nat) (w : World) (hE : Env w) (hn : n ≤ 9223372036854775807) :
    Calls Tryz.prog 4 #[.agg #[.bool lm, .slice ar nr cr, .slice ao n c]] w fun e w' => e = .returned (.bool true) ∧ Below w.heap.size w w' := by
  have hwi := fun W => within_c n 5 W (by omega) (by omega) (by decide) (by decide)
  have hkn : ((n : Int) % 5) = ((n % 5 : Nat) : Int) := by omega
  rw [hkn] at hwi
  have hk5 : n % 5 < 5 := Nat.mod_lt _ (by decide)
  clear hkn
  generalize n % 5 = k at *
  have s0 : IntKind.i64.wrap (1 + (k : Int)) = ((k + 1 : Nat) : Int) := by rw [IntWalk.i64_in _ (by omega)]; omega
  have hB1 := belowAlloc w (.cells #[.bool lm, .slice ar nr cr, .slice ao n c] 25)
  have hE1 := hE.below hB1
  have x0 : (w.alloc (.cells #[.bool lm, .slice ar nr cr, .slice ao n c] 25)).cell? ⟨w.heap.size, 0, none⟩ = some (.bool lm) := by rw [cell_alloc_new]; rfl
  have x2 : (w.alloc (.cells #[.bool lm, .slice ar nr cr, .slice ao n c] 25)).cell? ⟨w.heap.size, 2, none⟩ = some (.slice ao n c) := by rw [cell_alloc_new]; rfl
  go_enter Tryz.func4, Tryz.ntmps4
  go_wp2_with fail
  refine (hwi _).mono ?_
  rintro e w1 ⟨rfl, rfl⟩
  go_wp2_with fail
  generalize w.alloc (.cells #[.bool lm, .slice ar nr cr, .slice ao n c] 25) = W1 at *
  go_loop [4, 5, 6] (fun t u i => ∃ q : Nat, q ≤ k + 1 ∧ i = .int .i64 q ∧ t = .string (str (rep [46, 46, 120, 13, 10] q)) ∧ u = .string (str (rep [46, 120, 13, 10] q))) (fun _ _ i => k + 1 - (intOf i).toNat)
  case atStart => exact ⟨0, Nat.zero_le _, rfl, rfl, rfl⟩
  case round =>
    obtain ⟨q, hq, rfl, rfl, rfl⟩ := hrel
    by_cases hlt : q < k + 1
    · have l1 : (str (rep [46, 46, 120, 13, 10] q)).size = q * 5 := by rw [str_size, rep_len]; rfl
      have l2 : (str (rep [46, 120, 13, 10] q)).size = q * 4 := by rw [str_size, rep_len]; rfl
      have e1 : str (rep [46, 46, 120, 13, 10] q) ++ str [46, 46, 120, 13, 10] = str (rep [46, 46, 120, 13, 10] (q + 1)) := by rw [str_append]; rfl
      have e2 : str (rep [46, 120, 13, 10] q) ++ str [46, 120, 13, 10] = str (rep [46, 120, 13, 10] (q + 1)) := by rw [str_append]; rfl
      have E1 := Lib.hid e1
      have E2 := Lib.hid e2
      clear e1 e2
      go_wp2
      go_round
      case rel => exact ⟨q + 1, by omega, by go_num, by rw [← E1.out], by rw [← E2.out]⟩
      case measure => simp [intOf]; omega
    · have hqe : q = k + 1 := by omega
      subst hqe
      have l1 : (str (rep [46, 46, 120, 13, 10] (k + 1))).size = (k + 1) * 5 := by rw [str_size, rep_len]; rfl
      have hB2 := hB1.alloc hB1.size (.cells #[.int .i64 250, .int .i64 550, .int .i64 250, .int .i64 250, .int .i64 451] 3)
      have hB12 := belowAlloc W1 (.cells #[.int .i64 250, .int .i64 550, .int .i64 250, .int .i64 250, .int .i64 451] 3)
      have hnew := New_c lm (.slice (some ⟨W1.heap.size, 0, none⟩) 5 5) codesL _ (hE.below hB2) (intsNew W1 codesL _ 5 codesCells) (by decide)
      have hz1 := hB1.size
      have hbx := World.block_lt_of_cell? W1 _ x0
      have HB2 := Lib.hid hB2
      have HB12 := Lib.hid hB12
      clear hB2 hB12 hwi x2 hB1
      go_wp2_with fail
      refine hnew.mono ?_
      rintro e w2 ⟨b, rv, rfl, hb, hsz, hrow, hB⟩
      have hbW : W1.heap.size < b := by simp at hb; omega
      have kc := fun (W : World) (s : ByteArray) => run_bytes_of_string (P := Tryz.prog) W 9 33 5 s Tryz.underlying9 Tryz.underlying33 Tryz.underlying5
      have HROW := Lib.hid hrow
      have HBW := Lib.hid (HB2.out.trans (hB.mono HB2.out.size))
      have x0' : w2.cell? ⟨w.heap.size, 0, none⟩ = some (.bool lm) := cellsAt (cellOld _ x0) hB
      have hEw := hE.below HBW.out
      have hlen := takesIn_len (k + 1)
      have hh : ∀ (W : World) (m cap : Nat), m = 76 + (k + 1) * 5 + 9 → Below w2.heap.size w2 W → IsBytes W (.slice (some ⟨b + 1, 0, none⟩) (takesIn (k + 1)).length cap) (takesIn (k + 1)) →
          Calls Tryz.prog 25 #[.pointer (some ⟨b, 0, none⟩), .slice (some ⟨b + 1, 0, none⟩) m cap] W fun e w' => e = .returned (.string (str ((PeerS.new lm codesL).hear (takesIn (k + 1))).out)) ∧ ∃ rv' tv' gv', PeerRow (fun k => b ≤ k) (fun k => k < 9 ∨ (W1.alloc (.cells #[.int .i64 250, .int .i64 550, .int .i64 250, .int .i64 250, .int .i64 451] 3)).heap.size ≤ k ∧ k < b) b ((PeerS.new lm codesL).hear (takesIn (k + 1))) rv' tv' gv' w' ∧ Moves (fun k => b ≤ k) w2 w' := by
        intro W m cap hm hBW2 hby
        subst hm
        rw [← hlen]
        refine (Hear_c _ _ b _ rv _ _ _ (takesIn (k + 1)) 0 W (hrow.below hBW2) (hEw.below hBW2) hby (small_new _ _) (by rw [hlen]; omega) (by rw [hlen]; omega) (Nat.zero_le _)).mono ?_
        rintro e w3 ⟨rfl, rv3, tv3, gv3, h3, m3⟩
        exact ⟨rfl, _, _, _, h3, (Moves.ofBelow hBW2).trans m3⟩
      have HH := Lib.hid hh
      have HLEN := Lib.hid hlen
      have HBS := Lib.hid hsz
      clear hnew hrow hB hh hlen
      go_wp2_with fail
      refine (HH.out _ _ _ rfl ?hb ?hy).mono ?_
      case hb => exact (convBytes w2 _ _ _ _ rfl).1
      case hy =>
        have := (convBytes w2 (str headL ++ str (rep [46, 46, 120, 13, 10] (k + 1)) ++ str tailL) (grownCap w2 (76 + (k + 1) * 5 + 9) 0 5) ((bytesRow (str headL ++ str (rep [46, 46, 120, 13, 10] (k + 1)) ++ str tailL) (grownCap w2 (76 + (k + 1) * 5 + 9) 0 5)).size, (bytesRow (str headL ++ str (rep [46, 46, 120, 13, 10] (k + 1)) ++ str tailL) (grownCap w2 (76 + (k + 1) * 5 + 9) 0 5)).size + 1) (takesIn (k + 1)) (by rw [str_append, str_append]; rfl)).2 (grownCap w2 (76 + (k + 1) * 5 + 9) 0 5)
        rw [HBS.out] at this
        exact this
      rintro e w3 ⟨rfl, rv3, tv3, gv3, h3, m3⟩
      have z0 := m3.cell x0' (by simp; omega)
      have hEw3 := m3.env (fun j hj => by have := hE.size; simp; omega) hEw
      have hB3 : Below w.heap.size w w3 := m3.belowOf HBW.out HBW.out.size (fun j hj => by simp; omega)
      cases lm
      · obtain ⟨q1, q2⟩ := takes_F ⟨k, hk5⟩
        simp only at q1 q2
        have kq : (((PeerS.new false codesL).hear (takesIn (k + 1))).out == [50, 53, 48, 32, 111, 107, 13, 10, 50, 53, 48, 32, 111, 107, 13, 10, 53, 53, 48, 32, 110, 111, 13, 10, 50, 53, 48, 32, 111, 107, 13, 10, 50, 53, 48, 32, 111, 107, 13, 10, 51, 53, 52, 32, 103, 111, 32, 111, 110, 13, 10, 52, 53, 49, 32, 110, 111, 13, 10, 50, 50, 49, 32, 98, 121, 101, 13, 10]) = true := by rw [beq_iff_eq]; exact q1
        have hgot := Got_c _ _ b _ rv3 tv3 gv3 w3 h3 (by rw [q2]; simp)
        rw [q2] at hgot
        have HB3 := Lib.hid hB3
        clear q1 q2 h3 m3 hB3
        generalize (PeerS.new false codesL).hear (takesIn (k + 1)) = qq at *
        go_wp2_with fail
        refine hgot.mono ?_
        rintro e w4 ⟨v4, rfl, ho4, hB4⟩
        obtain ⟨a4, c4, rfl⟩ := row_form ho4
        have hwk := wakes_c w4 (hEw3.below hB4)
        have HB4 := Lib.hid (HB3.out.trans (hB4.mono HB3.out.size))
        clear hgot ho4 hB4
        go_wp2_with fail
        refine hwk.mono ?_
        rintro e w5 ⟨rfl, hB5⟩
        go_wp2
        go_ret
        exact ⟨rfl, HB4.out.trans (hB5.mono HB4.out.size)⟩
      · obtain ⟨q1, q2⟩ := takes_T ⟨k, hk5⟩
        simp only at q1 q2
        have kq : (((PeerS.new true codesL).hear (takesIn (k + 1))).out == [50, 53, 48, 32, 111, 107, 13, 10, 50, 53, 48, 32, 111, 107, 13, 10, 53, 53, 48, 32, 110, 111, 13, 10, 50, 53, 48, 32, 111, 107, 13, 10, 50, 53, 48, 32, 111, 107, 13, 10, 51, 53, 52, 32, 103, 111, 32, 111, 110, 13, 10, 52, 53, 49, 32, 110, 111, 13, 10, 50, 53, 48, 32, 111, 107, 13, 10, 50, 50, 49, 32, 98, 121, 101, 13, 10]) = true := by rw [beq_iff_eq]; exact q1
        have hgot := Got_c _ _ b _ rv3 tv3 gv3 w3 h3 (by rw [q2]; simp)
        rw [q2] at hgot
        have HB3 := Lib.hid hB3
        clear q1 q2 h3 m3 hB3
        generalize (PeerS.new true codesL).hear (takesIn (k + 1)) = qq at *
        generalize rep [46, 120, 13, 10] (k + 1) = want at *
        go_wp2_with fail
        refine hgot.mono ?_
        rintro e w4 ⟨v4, rfl, ho4, hB4⟩
        obtain ⟨a4, c4, rfl⟩ := row_form ho4
        have hB5 := belowAlloc w4 (.cells #[.string (str [97, 64, 98]), .string (str [102, 64, 100]), .string (str want)] 9)
        have ho5 : (w4.alloc (.cells #[.string (str [97, 64, 98]), .string (str [102, 64, 100]), .string (str want)] 9)).ownsRow 0 9 1 (.slice (some ⟨w4.heap.size, 0, none⟩) 3 3) 3 (strCells [[97, 64, 98], [102, 64, 100], want]) := World.ownsRow_lit w4 #[.string (str [97, 64, 98]), .string (str [102, 64, 100]), .string (str want)] 3 (Nat.zero_le _) (by decide) rfl
        have heq := eqStrings_c w3.heap.size 0 (.slice a4 3 c4) (.slice (some ⟨w4.heap.size, 0, none⟩) 3 3) [[97, 64, 98], [102, 64, 100], want] [[97, 64, 98], [102, 64, 100], want] _ (ownsBelow ho4 hB5) ho5
        rw [decide_eq_true rfl] at heq
        have hE5 := (hEw3.below hB4).below hB5
        have HB5 := Lib.hid ((HB3.out.trans (hB4.mono HB3.out.size)).trans (hB5.mono (by have := HB3.out.size; have := hB4.size; omega)))
        clear hgot ho4 hB4 ho5 hB5
        go_wp2_with fail
        refine heq.mono ?_
        rintro e w6 ⟨rfl, hB6⟩
        have hwk := wakes_c w6 (hE5.below hB6)
        have HB6 := Lib.hid (HB5.out.trans (hB6.mono HB5.out.size))
        clear heq hB6
        go_wp2_with fail
        refine hwk.mono ?_
        rintro e w7 ⟨rfl, hB7⟩
        go_wp2
        go_ret
        exact ⟨rfl, HB6.out.trans (hB7.mono HB6.out.size)⟩

end Go.Proofs.YthbofddadgmghaaGreatDoor
