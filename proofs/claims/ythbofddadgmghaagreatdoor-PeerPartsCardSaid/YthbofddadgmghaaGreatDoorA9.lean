/- The walk of frame.Put. -/
import Derived.Test.YthbofddadgmghaaGreatDoorA8
set_option linter.unusedVariables false
set_option linter.unusedSimpArgs false
namespace Go.Proofs.YthbofddadgmghaaGreatDoor
open Go.RowKit Go.Shelf

theorem cut_found (l : List UInt8) (i : Nat) (h : Lib.index l [13, 10] = (i : Int)) : Lib.cut l [13, 10] = (l.take i, l.drop (i + 2), true) := by
  unfold Lib.cut
  rw [if_pos (by omega), h]
  rfl
theorem cut_none (l : List UInt8) (h : Lib.index l [13, 10] = -1) : Lib.cut l [13, 10] = (l, [], false) := by
  unfold Lib.cut
  rw [if_neg (by omega)]
theorem cutCall (l : List UInt8) (w : World) (hE : Env w) (hl : l.length ≤ 1073741824) : Calls Tryz.prog 135 #[.string (str l), .string (str [13, 10])] w fun e w' => e = .returned (.tuple #[.string (str (Lib.cut l [13, 10]).1), .string (str (Lib.cut l [13, 10]).2.1), .bool (Lib.cut l [13, 10]).2.2]) ∧ Below w.heap.size w w' := by
  obtain ⟨m, hm⟩ := hE.maxLen
  exact (Tryz.strings_Cut (str l) (str [13, 10]) m w (by rw [str_size]; omega) hm).mono fun e w' ⟨he, n, hw⟩ => ⟨he, by rw [hw]; exact below_drewN w n⟩

theorem ownsBelow {w W : World} {B e size n : Nat} {v : Value} {xs : List Value} (h : w.ownsRow B e size v n xs) (hb : Below w.heap.size w W) : W.ownsRow B e size v n xs :=
  h.kept (row := none) ⟨hb.os, hb.tape, hb.output, hb.size, fun k hk _ => hb.block k hk⟩ (by cases h' : v.ownBlock; exact .inl rfl; exact .inr (by simp))
theorem lineCells_snoc (ls : List (List UInt8 × Bool)) (x : List UInt8 × Bool) : lineCells (ls ++ [x]) = lineCells ls ++ [.string (str x.1), .bool x.2] := by simp [lineCells]

set_option maxHeartbeats 1000000 in
theorem Put_c (f : List UInt8 × Bool) (v : Value) (l : List UInt8) (w : World) (hE : Env w) (hv : IsBytes w v l) (h1 : f.1.length ≤ 268435456) (h2 : l.length ≤ 268435456) :
    Calls Tryz.prog 78 #[framerV f, v] w fun e w' => ∃ v', e = .returned (.tuple #[framerV (putL f l).1, v']) ∧ w'.ownsRow (w.heap.size + 2) 139 2 v' (putL f l).2.length (lineCells (putL f l).2) ∧ Below w.heap.size w w' := by
  obtain ⟨r, k⟩ := f
  dsimp only at h1
  obtain ⟨i0, hi, hz0, hz1, hz2⟩ := info_parts info139
  have hs1 : (str r).size = r.length := str_size r
  have hs2 : (str l).size = l.length := str_size l
  obtain ⟨x0, x1, x2⟩ := cells2 w (.string (str r)) (.bool k) 128
  have f0 := x2 0
  have f1 := x2 1
  have y0 := cellOld (.cells #[.string ⟨#[]⟩, .bool false] 128) x0
  have y1 := cellOld (.cells #[.string ⟨#[]⟩, .bool false] 128) x1
  obtain ⟨z0, z1, z2⟩ := cells2 (w.alloc (.cells #[.string (str r), .bool k] 128)) (.string ⟨#[]⟩) (.bool false) 128
  have g0 := z2 0
  have g1 := z2 1
  have hB := below2 w (.cells #[.string (str r), .bool k] 128) (.cells #[.string ⟨#[]⟩, .bool false] 128)
  have hcv := (hv.below hB).conv
  have hE2 := hE.below hB
  have HB := Lib.hid hB
  have hzs : (w.alloc (.cells #[.string (str r), .bool k] 128)).heap.size = w.heap.size + 1 := by simp
  rw [hzs] at z0 z1 g0 g1
  have hW2 : ((w.alloc (.cells #[.string (str r), .bool k] 128)).alloc (.cells #[.string ⟨#[]⟩, .bool false] 128)).heap.size = w.heap.size + 2 := by simp
  clear x2 z2 hB hv hzs
  have hput : putL (r, k) l = (cutF (scan k [] (r ++ l)).1, (scan k [] (r ++ l)).2) := rfl
  generalize putL (r, k) l = pt at *
  generalize htot : scan k [] (r ++ l) = tot at *
  have HTOT := Lib.hid hput
  have HS := Lib.hid htot
  clear hput htot
  go_enter Tryz.func78, Tryz.ntmps78
  go_wp2_with fail
  generalize (w.alloc (.cells #[.string (str r), .bool k] 128)).alloc (.cells #[.string ⟨#[]⟩, .bool false] 128) = W2 at *
  clear x0 x1 f0 f1 y0 y1 hcv
  go_loopw [6, 7, 8] (fun vl va vk wr => ∃ (v' : Value) (ls : List (List UInt8 × Bool)) (al : List UInt8) (k' : Bool), vl = v' ∧ va = .string (str al) ∧ vk = .bool k' ∧ al.length ≤ 536870912 ∧ ls.length + al.length ≤ 536870912 ∧
      Hid (((scan k' [] al).1, ls ++ (scan k' [] al).2) = tot) ∧ wr.ownsRow (w.heap.size + 2) 139 2 v' ls.length (lineCells ls) ∧ Below W2.heap.size W2 wr) (fun vl va vk _ => match va with | .string s => s.size | _ => 0)
  case atStart =>
    refine ⟨.slice none 0 0, [], r ++ l, k, rfl, ?_, rfl, by simp; omega, by simp; omega, by rw [HS.out]; rfl, World.ownsRow_nil _ _ _ _, Below.refl _ _⟩
    rw [str_append]
  case round =>
    obtain ⟨v', ls, al, k', rfl, rfl, rfl, ha, hla, H, hown, hB⟩ := hrel
    have hE3 := hE2.below hB
    have hc := cutCall al wr hE3 (by omega)
    rcases (show Lib.index al [13, 10] = -1 ∨ ∃ i : Nat, Lib.index al [13, 10] = (i : Int) from by
      have := Lib.index_ge al [13, 10]
      by_cases h : Lib.index al [13, 10] = -1
      · exact .inl h
      · exact .inr ⟨(Lib.index al [13, 10]).toNat, by omega⟩) with hm | ⟨i, hi'⟩
    · rw [cut_none al hm] at hc
      dsimp only at hc
      have HS2 := Lib.hid (scan_miss k' al hm)
      clear hm
      go_wp2_with fail
      refine hc.mono ?_
      rintro e w3 ⟨rfl, hB3⟩
      have hct := cut_c al k' w3 (by omega)
      go_wp2_with fail
      refine hct.mono ?_
      rintro e w4 ⟨rfl, hB4⟩
      have hB34 := bThen hB (Nat.le_refl _) (bThen hB3 (Nat.le_refl _) hB4)
      obtain ⟨c0, d0⟩ := held1 (W := w) hB34 ⟨z0, g0⟩
      obtain ⟨c1, d1⟩ := held1 (W := w) hB34 ⟨z1, g1⟩
      have hown4 := ownsBelow hown (bThen hB3 (Nat.le_refl _) hB4)
      have hfin : Below w.heap.size w w4 := HB.out.trans (hB34.mono (by omega))
      have hH := H.out
      rw [HS2.out] at hH
      have HT := Lib.hid hH
      clear hH H HS2 hc hB hB3 hB4 hB34 hct hown
      go_wp2
      obtain ⟨u0, u1⟩ := set2 (x := .string (str (cutF (al, k')).1)) (y := .bool (cutF (al, k')).2) c0 c1
      refine bodyPost_ret (v := .tuple #[framerV (cutF (al, k')), u6]) ?_ rfl ⟨u6, ?_, ?_, (hfin.setCell (p := ⟨w.heap.size + 1, 0, none⟩) (Nat.le_succ _) _).setCell (p := ⟨w.heap.size + 1, 1, none⟩) (Nat.le_succ _) _⟩
      · simp [results, Tryz.f78, go_sem, u0, u1]
      · rw [HTOT.out, ← HT.out]
      · rw [HTOT.out, ← HT.out]
        simp only [List.append_nil]
        exact ownsRow_setCell_below (ownsRow_setCell_below hown4 (Nat.lt_succ_self _) _) (Nat.lt_succ_self _) _
    · rw [cut_found al i hi'] at hc
      dsimp only at hc
      obtain ⟨hi2, hsc⟩ := scan_hit k' al i hi'
      have HS2 := Lib.hid hsc
      clear hi' hsc
      go_wp2_with fail
      refine hc.mono ?_
      rintro e w3 ⟨rfl, hB3⟩
      have hown3 := ownsBelow hown hB3
      have hB23 := bThen hB (Nat.le_refl _) hB3
      have hln := line_c (al.take i) k' w3 (by simp; omega)
      clear hc hown
      have hidr : Hid (tot = ((scan false [] (al.drop (i + 2))).1, ls ++ [lineOf (al.take i) k'] ++ (scan false [] (al.drop (i + 2))).2)) := by
        show _ = _
        rw [← H.out, HS2.out]; simp
      generalize lineOf (al.take i) k' = lx at *
      obtain ⟨xl, xb⟩ := lx
      generalize al.take i = t1 at *
      have hdl : (al.drop (i + 2)).length + i + 2 = al.length := by rw [List.length_drop]; omega
      generalize al.drop (i + 2) = t2 at *
      clear H HS2
      go_wp2_with (first
        | (go_at_call 137; refine hln.mono ?_; rintro e w4 ⟨rfl, hB4⟩; have hown4 := ownsBelow hown3 hB4; have hB24 := bThen hB23 (Nat.le_refl _) hB4)
        | (at_builtin; refine wpList_append_own _ rfl _ _ 135 rfl (w.heap.size + 2) 139 i0 (.agg #[.string ⟨#[]⟩, .bool false]) 2 24 Tryz.underlying135 hi hz0 hz1 hz2 rfl (by decide) _ _ _ rfl (hown4.alloc _) ⟨w4.heap.size, 0, none⟩ 1 1 [.string (str xl), .bool xb] rfl rfl ?c1 ?c2 ?c3 ?c4 ?c5 ?_))
      case c1 =>
        intro j u hj
        match j, hj with
        | 0, hj => simp at hj; subst hj; simp [Addr.add]
        | 1, hj => simp at hj; subst hj; simp [Addr.add]
      case c2 => intro u hu; simp at hu; rcases hu with rfl | rfl <;> rfl
      case c3 => unfold maxLen; omega
      case c4 => omega
      case c5 => have := hB24.size; simp; omega
      · intro v' w5 hown5 hgrow _
        have hB25 := (hB24.alloc hB24.size (.cells #[.string (str xl), .bool xb] 139)).grown hgrow (by simp; have := hB24.size; omega) (fun k hk => by have := (hown4.lt k hk).1; omega)
        have hown6 : w5.ownsRow (w.heap.size + 2) 139 2 v' (ls ++ [(xl, xb)]).length (lineCells (ls ++ [(xl, xb)])) := by
          rw [lineCells_snoc, List.length_append]; exact hown5
        clear hown5 hgrow hown4 hown3 hB24 hB23 hB4 hB3 hB hln
        go_wp2
        go_roundw
        case rel => exact ⟨v', ls ++ [(xl, xb)], t2, false, rfl, rfl, rfl, by omega, by simp; omega, hidr.out.symm, hown6, hB25⟩
        case measure => simp only [str_size]; omega

end Go.Proofs.YthbofddadgmghaaGreatDoor
