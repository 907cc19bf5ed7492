/- Walks of the package addr: paths, and what may be a mailbox. -/
import Derived.Test.YthbofddadgmghaaGreatDoorA5
set_option linter.unusedVariables false
set_option linter.unusedSimpArgs false
namespace Go.Proofs.YthbofddadgmghaaGreatDoor
open Go.RowKit Go.Shelf

theorem str_append (a b : List UInt8) : str a ++ str b = str (a ++ b) := bl_inj (by simp [bl, str])
def layL (p d : List UInt8) : List UInt8 := p ++ 64 :: d
set_option maxHeartbeats 400000 in
theorem Lay_c (p d : List UInt8) (w : World) (hs : p.length + d.length ≤ 1073741824) : Calls Tryz.prog 210 #[boxV p d] w fun e w' => e = .returned (.string (str (layL p d))) ∧ Below w.heap.size w w' := by
  go_enter Tryz.func210, Tryz.ntmps210
  go_wp2
  go_ret
  refine ⟨?_, belowAlloc w _⟩
  have h1 : str p ++ str [64] ++ str d = str (layL p d) := by rw [str_append, str_append]; simp [layL]
  exact ret_str h1

theorem set2 {w : World} {b : Nat} {x y x' y' : Value} (h0 : w.cell? ⟨b, 0, none⟩ = some x') (h1 : w.cell? ⟨b, 1, none⟩ = some y') :
    ((w.setCell ⟨b, 0, none⟩ x).setCell ⟨b, 1, none⟩ y).cell? ⟨b, 0, none⟩ = some x ∧ ((w.setCell ⟨b, 0, none⟩ x).setCell ⟨b, 1, none⟩ y).cell? ⟨b, 1, none⟩ = some y := by
  constructor
  · rw [World.cell?_setCell_other _ _ _ _ (by intro h; injection h with _ h; cases h)]
    exact World.cell?_setCell_same' _ _ _ (by rw [h0]; rfl)
  · exact World.cell?_setCell_same' _ _ _ (by rw [World.cell?_setCell_other _ _ _ _ (by intro h; injection h with _ h; cases h), h1]; rfl)
def midL (l : List UInt8) : List UInt8 := (l.drop 1).take (l.length - 2)
def isPath (l : List UInt8) : Bool := decide (2 ≤ l.length) && (decide (l.getD 0 0 = 60) && decide (l.getD (l.length - 1) 0 = 62))
def pathL (l : List UInt8) : (List UInt8 × List UInt8) × Bool × Int :=
  if l = [60, 62] then (([], []), true, 0) else if isPath l then (match readL (midL l) with
    | some q => (q, false, 0)
    | none => (([], []), false, 8)) else (([], []), false, 8)
def endPath (x : (List UInt8 × List UInt8) × Bool × Int) : Ending := .returned (.tuple #[boxV x.1.1 x.1.2, .bool x.2.1, .int .i64 x.2.2])

set_option maxHeartbeats 1000000 in
theorem Path_c (s : ByteArray) (w : World) (hE : Env w) (hs : s.size ≤ 536870912) : Calls Tryz.prog 209 #[.string s] w fun e w' => e = endPath (pathL (bl s)) ∧ Below w.heap.size w w' := by
  obtain ⟨x0, x1, x2⟩ := cells2 w (.string ⟨#[]⟩) (.string ⟨#[]⟩) 75
  have f0 := x2 0
  have f1 := x2 1
  clear x2
  by_cases h0 : bl s = [60, 62]
  · have b0 : (s.toList == [60, 62]) = true := by rw [ba_toList, h0]; rfl
    have hv : pathL (bl s) = (([], []), true, 0) := by rw [h0]; rfl
    have HV := Lib.hid hv
    clear h0 hv
    go_enter Tryz.func209, Tryz.ntmps209
    go_wp2
    refine bodyPost_ret (v := .tuple #[boxV [] [], .bool true, .int .i64 0]) ?_ rfl ⟨by rw [HV.out]; rfl, belowAlloc w _⟩
    simp [results, Tryz.f209, go_sem]
  · have b0 : (s.toList == [60, 62]) = false := by rw [ba_toList, beq_eq_false_iff_ne]; exact h0
    have hlen := bl_length s
    have hno : isPath (bl s) = false → pathL (bl s) = (([], []), false, 8) := fun h => by unfold pathL; rw [if_neg h0, if_neg (by simp [h])]
    by_cases h1 : 2 ≤ s.size
    · have hz0 : 0 < s.size := Nat.lt_of_lt_of_le (by decide) h1
      have hz1 : s.size - 1 < s.size := Nat.sub_lt hz0 (by decide)
      have g1 : decide ((s.size : Int) < 2) = false := decide_eq_false (by omega)
      have e0 : (bl s).getD 0 0 = s[0]'hz0 := by rw [← bl_getElem s 0 (by omega)]; simp [List.getD_eq_getElem?_getD]; rw [List.getElem?_eq_getElem (by omega)]; rfl
      have e1 : (bl s).getD (s.size - 1) 0 = s[s.size - 1]'hz1 := by rw [← bl_getElem s (s.size - 1) (by omega)]; simp [List.getD_eq_getElem?_getD]; rw [List.getElem?_eq_getElem (by omega)]; rfl
      have hip : isPath (bl s) = (decide ((s[0]'hz0) = 60) && decide ((s[s.size - 1]'hz1) = 62)) := by unfold isPath; rw [hlen, e0, e1, decide_eq_true h1, Bool.true_and]
      have s1 : IntKind.i64.wrap ((s.size : Int) - 1) = (s.size : Int) - 1 := IntWalk.i64_in _ (by omega)
      have s3 : ((s.size : Int) - 1).toNat = s.size - 1 := by omega
      by_cases c1 : (s[0]'hz0) = 60
      · have g2 : (((s[0]'hz0).toNat : Int) != 60) = false := by rw [bne_eq_false_iff_eq, c1]; rfl
        by_cases c2 : (s[s.size - 1]'hz1) = 62
        · have g3 : (((s[s.size - 1]'hz1).toNat : Int) != 62) = false := by rw [bne_eq_false_iff_eq, c2]; rfl
          have hyes : isPath (bl s) = true := by rw [hip]; simp [c1, c2]
          have hP := fun W hW => Parse_c (s.extract 1 (s.size - 1)) W hW (by simp [ByteArray.size_extract]; omega)
          have hmid : bl (s.extract 1 (s.size - 1)) = midL (bl s) := by rw [bl_extract, midL, hlen]; rfl
          rw [hmid] at hP
          have hv : pathL (bl s) = (match readL (midL (bl s)) with | some q => (q, false, 0) | none => (([], []), false, 8)) := by unfold pathL; rw [if_neg h0, if_pos hyes]
          cases hr : readL (midL (bl s)) with
          | none =>
            rw [hr] at hv hP
            simp only [endP] at hP
            have HV := Lib.hid hv
            clear hv hr hno hip hyes c1 c2 e0 e1 h0 hmid hlen
            go_enter Tryz.func209, Tryz.ntmps209
            go_wp2_with fail
            refine (hP _ (hE.below (belowAlloc w _))).mono ?_
            rintro e w1 ⟨rfl, hB⟩
            obtain ⟨c0, f0'⟩ := held1 (W := w) hB ⟨x0, f0⟩
            obtain ⟨c1, f1'⟩ := held1 (W := w) hB ⟨x1, f1⟩
            have HB := Lib.hid ((belowAlloc w _).trans (hB.mono (by simp)))
            clear hB x0 x1 f0 f1
            go_wp2
            refine bodyPost_ret (v := .tuple #[boxV [] [], .bool false, .int .i64 8]) ?_ rfl ⟨by rw [HV.out]; rfl, (((HB.out.setCell (p := ⟨w.heap.size, 0, none⟩) (Nat.le_refl _) _).setCell (p := ⟨w.heap.size, 1, none⟩) (Nat.le_refl _) _).setCell (p := ⟨w.heap.size, 0, none⟩) (Nat.le_refl _) _).setCell (p := ⟨w.heap.size, 1, none⟩) (Nat.le_refl _) _⟩
            obtain ⟨u0, u1⟩ := set2 (x := .string (str [])) (y := .string (str [])) c0 c1
            obtain ⟨v0, v1⟩ := set2 (x := .string (str [])) (y := .string (str [])) u0 u1
            simp [results, Tryz.f209, go_sem, v0, v1]
          | some q =>
            obtain ⟨p, d⟩ := q
            rw [hr] at hv hP
            simp only [endP] at hP
            have HV := Lib.hid hv
            clear hv hr hno hip hyes c1 c2 e0 e1 h0 hmid hlen
            go_enter Tryz.func209, Tryz.ntmps209
            go_wp2_with fail
            refine (hP _ (hE.below (belowAlloc w _))).mono ?_
            rintro e w1 ⟨rfl, hB⟩
            obtain ⟨c0, f0'⟩ := held1 (W := w) hB ⟨x0, f0⟩
            obtain ⟨c1, f1'⟩ := held1 (W := w) hB ⟨x1, f1⟩
            have HB := Lib.hid ((belowAlloc w _).trans (hB.mono (by simp)))
            clear hB x0 x1 f0 f1
            go_wp2
            refine bodyPost_ret (v := .tuple #[boxV p d, .bool false, .int .i64 0]) ?_ rfl ⟨by rw [HV.out]; rfl, (((HB.out.setCell (p := ⟨w.heap.size, 0, none⟩) (Nat.le_refl _) _).setCell (p := ⟨w.heap.size, 1, none⟩) (Nat.le_refl _) _).setCell (p := ⟨w.heap.size, 0, none⟩) (Nat.le_refl _) _).setCell (p := ⟨w.heap.size, 1, none⟩) (Nat.le_refl _) _⟩
            obtain ⟨u0, u1⟩ := set2 (x := .string (str p)) (y := .string (str d)) c0 c1
            obtain ⟨v0, v1⟩ := set2 (x := .string (str p)) (y := .string (str d)) u0 u1
            simp [results, Tryz.f209, go_sem, v0, v1]
        · have g3 : (((s[s.size - 1]'hz1).toNat : Int) != 62) = true := by
            rw [bne_iff_ne]; intro h; exact c2 (UInt8.toNat_inj.1 (by have : (62 : UInt8).toNat = 62 := rfl; omega))
          have HV := Lib.hid (hno (by rw [hip]; simp [c2]))
          clear hno hip c1 c2 e0 e1 h0 hlen
          go_enter Tryz.func209, Tryz.ntmps209
          go_wp2
          refine bodyPost_ret (v := .tuple #[boxV [] [], .bool false, .int .i64 8]) ?_ rfl ⟨by rw [HV.out]; rfl, belowAlloc w _⟩
          simp [results, Tryz.f209, go_sem]
      · have g2 : (((s[0]'hz0).toNat : Int) != 60) = true := by
          rw [bne_iff_ne]; intro h; exact c1 (UInt8.toNat_inj.1 (by have : (60 : UInt8).toNat = 60 := rfl; omega))
        have HV := Lib.hid (hno (by rw [hip]; simp [c1]))
        clear hno hip c1 e0 e1 h0 hlen
        go_enter Tryz.func209, Tryz.ntmps209
        go_wp2
        refine bodyPost_ret (v := .tuple #[boxV [] [], .bool false, .int .i64 8]) ?_ rfl ⟨by rw [HV.out]; rfl, belowAlloc w _⟩
        simp [results, Tryz.f209, go_sem]
    · have g1 : decide ((s.size : Int) < 2) = true := decide_eq_true (by omega)
      have HV := Lib.hid (hno (by unfold isPath; rw [hlen, decide_eq_false h1]; rfl))
      clear hno h0 h1 hlen
      go_enter Tryz.func209, Tryz.ntmps209
      go_wp2
      refine bodyPost_ret (v := .tuple #[boxV [] [], .bool false, .int .i64 8]) ?_ rfl ⟨by rw [HV.out]; rfl, belowAlloc w _⟩
      simp [results, Tryz.f209, go_sem]

end Go.Proofs.YthbofddadgmghaaGreatDoor
