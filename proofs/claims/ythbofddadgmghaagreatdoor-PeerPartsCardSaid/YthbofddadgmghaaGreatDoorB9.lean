/- Walks of the law package 27: wakes. -/
import Derived.Test.YthbofddadgmghaaGreatDoorB8
import Derived.Lib.SlBytesConst
set_option linter.unusedVariables false
set_option linter.unusedSimpArgs false
namespace Go.Proofs.YthbofddadgmghaaGreatDoor
open Go.RowKit Go.Shelf

theorem Moves.belowOf {own : Nat → Prop} {B : Nat} {a b c : World} (h : Below B a b) (hm : Moves own b c) (hB : B ≤ b.heap.size) (ho : ∀ k, k < B → ¬ own k) : Below B a c :=
  h.trans ⟨hm.os, hm.tape, hm.output, hm.size, fun k hk => hm.block k (by omega) (ho k hk)⟩
theorem small_new (lm : Bool) (l : List Int) : Small 0 (PeerS.new lm l) := ⟨Nat.le_refl _, Nat.le_refl _, Nat.le_refl _⟩
theorem quit_says : ((PeerS.new false []).hear [81, 85, 73, 84, 13, 10]).out = [50, 50, 49, 32, 98, 121, 101, 13, 10] := by decide +kernel
theorem greets_says : saysL 220 = [50, 50, 48, 32, 104, 101, 114, 101, 13, 10] := by decide +kernel
theorem bytesNew (w : World) (l : List UInt8) (cs : Array Value) (fr : Nat × Nat) (c : Nat) (h : ∀ i (hi : i < l.length), cs[i]? = some (.int .u8 (l[i].toNat : Int))) : IsBytes (w.alloc (.cells cs 5 fr)) (.slice (some ⟨w.heap.size, 0, none⟩) l.length c) l := by
  refine .inr ⟨⟨w.heap.size, 0, none⟩, c, rfl, fun i hi => ?_⟩
  rw [Addr.add_lit]
  unfold World.cell?
  simp only [heap_alloc_new]
  simpa using h i hi

theorem quitCells : ∀ i (hi : i < ([81, 85, 73, 84, 13, 10] : List UInt8).length), (#[.int .u8 81, .int .u8 85, .int .u8 73, .int .u8 84, .int .u8 13, .int .u8 10] : Array Value)[i]? = some (.int .u8 (([81, 85, 73, 84, 13, 10] : List UInt8)[i].toNat : Int)) := by
  intro i hi
  match i, hi with
  | 0, _ => rfl
  | 1, _ => rfl
  | 2, _ => rfl
  | 3, _ => rfl
  | 4, _ => rfl
  | 5, _ => rfl
  | i + 6, hi => simp at hi; omega

set_option maxRecDepth 8000 in
theorem wakes_c (w : World) (hE : Env w) : Calls Tryz.prog 32 #[] w fun e w' => e = .returned (.bool true) ∧ Below w.heap.size w w' := by
  have hn := New_c false (.slice none 0 0) [] w hE (.inl ⟨rfl, rfl⟩) (by simp)
  have kc := fun (w : World) (C : Array Value) (n c : Nat) => Lib.run_convert_bytes_const (P := Tryz.prog) w 33 5 C n c Tryz.underlying33 Tryz.underlying5
  go_enter Tryz.func32, Tryz.ntmps32
  go_wp2_with fail
  refine hn.mono ?_
  rintro e w1 ⟨b, rv, rfl, hb, hsz, hrow, hB⟩
  have hg := Greets_c (.pointer (some ⟨b, 0, none⟩)) w1 (hE.below hB)
  have kg : (saysL 220 == [50, 50, 48, 32, 104, 101, 114, 101, 13, 10]) = true := by rw [beq_iff_eq]; exact greets_says
  generalize saysL 220 = gl at *
  have HR := Lib.hid hrow
  have HB := Lib.hid hB
  clear hrow hn hB
  go_wp2_with fail
  refine hg.mono ?_
  rintro e w2 ⟨rfl, hB2⟩
  have hB3 := bThen hB2 (Nat.le_refl _) (belowAlloc w2 (.cells #[.int .u8 81, .int .u8 85, .int .u8 73, .int .u8 84, .int .u8 13, .int .u8 10] 5 (6, 7)))
  have hh := Hear_c _ _ b _ rv _ _ (.slice (some ⟨w2.heap.size, 0, none⟩) 6 6) [81, 85, 73, 84, 13, 10] 0 _ (HR.out.below hB3) ((hE.below HB.out).below hB3) (bytesNew w2 [81, 85, 73, 84, 13, 10] _ (6, 7) 6 quitCells) (small_new _ _) (by decide) (by decide) (by decide)
  have kq : (((PeerS.new false []).hear [81, 85, 73, 84, 13, 10]).out == [50, 50, 49, 32, 98, 121, 101, 13, 10]) = true := by rw [beq_iff_eq]; exact quit_says
  generalize (PeerS.new false []).hear [81, 85, 73, 84, 13, 10] = q at *
  generalize q.out = qo at *
  have hpost : ∀ W, Moves (fun k => b ≤ k) (w2.alloc (.cells #[.int .u8 81, .int .u8 85, .int .u8 73, .int .u8 84, .int .u8 13, .int .u8 10] 5 (6, 7))) W → Below w.heap.size w W := fun W hm => hm.belowOf (HB.out.trans (hB3.mono (by omega))) (by have := HB.out.size; have := hB3.size; omega) (fun k hk => by omega)
  have HPO := Lib.hid hpost
  have HH := Lib.hid hh
  clear hh hpost
  clear hg hB2 hB3
  go_wp2_with fail
  refine HH.out.mono ?_
  rintro e w3 ⟨rfl, rv3, tv3, gv3, h3, m3⟩
  clear HH
  go_wp2
  go_ret
  exact ⟨rfl, HPO.out _ m3⟩

end Go.Proofs.YthbofddadgmghaaGreatDoor
