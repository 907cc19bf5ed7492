/- Walks of the package addr: letters, words, quotes. -/
import Derived.Test.YthbofddadgmghaaGreatDoorA0
import Derived.Lib.LazyBuf
import Derived.Lib.ConvBytes
import Derived.Laws.BytesArg
set_option linter.unusedVariables false
set_option linter.unusedSimpArgs false
namespace Go.Proofs.YthbofddadgmghaaGreatDoor
open Go.RowKit Go.Shelf

def signB (c : Int) : Bool := (decide (97 ≤ c) && decide (c ≤ 122)) || (decide (48 ≤ c) && decide (c ≤ 57))

set_option maxHeartbeats 400000 in
theorem sign_c (c : Int) (w : World) : Calls Tryz.prog 257 #[.int .u8 c] w fun e w' => e = .returned (.bool (signB c)) ∧ w = w' := by
  go_enter Tryz.func257, Tryz.ntmps257
  go_wp2
  all_goals (go_ret; exact ⟨by simp [signB, *]; try omega, rfl⟩)

def atomChars : List UInt8 := [33, 35, 36, 37, 38, 39, 42, 43, 45, 47, 61, 63, 94, 95, 96, 123, 124, 125, 126]
def atomB (c : Int) : Bool := signB c || (decide (65 ≤ c) && decide (c ≤ 90)) || decide (0 ≤ Lib.indexByte atomChars c.toNat.toUInt8)

set_option maxHeartbeats 400000 in
theorem atom_c (c : Int) (w : World) : Calls Tryz.prog 331 #[.int .u8 c] w fun e w' => e = .returned (.bool (atomB c)) ∧ w = w' := by
  go_enter Tryz.func331, Tryz.ntmps331
  cases hs : signB c <;> (
  go_wp2_with (first
    | (go_at_call 257; refine (sign_c _ _).mono ?_; rintro e w' ⟨rfl, rfl⟩)
    | (go_at_call 317; refine (Tryz.strings_IndexByte _ _ _).mono ?_; rintro e w' ⟨rfl, rfl⟩)))
  all_goals (go_ret; exact ⟨by simp [atomB, atomChars, *]; try omega, rfl⟩)

def plainGo : Nat → List UInt8 → Bool
  | wd, [] => decide (0 < wd)
  | wd, c :: r => if (c.toNat : Int) = 46 then (if wd = 0 then false else plainGo 0 r) else if atomB (c.toNat : Int) then plainGo (wd + 1) r else false
def plainB (l : List UInt8) : Bool := plainGo 0 l

set_option maxHeartbeats 400000 in
theorem plain_c (s : ByteArray) (w : World) (hs : s.size ≤ maxLen) : Calls Tryz.prog 318 #[.string s] w fun e w' => e = .returned (.bool (plainB (bl s))) ∧ w = w' := by
  unfold maxLen at hs
  go_enter Tryz.func318, Tryz.ntmps318
  go_wp2
  go_loop [3, 7] (fun wd i => ∃ k q : Nat, k ≤ s.size ∧ q ≤ k ∧ i = .int .i64 k ∧ wd = .int .i64 q ∧ Hid (plainGo q ((bl s).drop k) = plainB (bl s))) (fun _ i => s.size - (intOf i).toNat)
  case atStart => exact ⟨0, 0, Nat.zero_le _, Nat.le_refl _, rfl, rfl, rfl⟩
  case round =>
    obtain ⟨k, q, hk, hq, rfl, rfl, H⟩ := hrel
    by_cases hlt : k < s.size
    · have HR : Hid (plainGo q (s[k] :: (bl s).drop (k + 1)) = plainB (bl s)) := by rw [← bl_drop s k hlt]; exact H.out
      cases ha : atomB (s[k].toNat : Int)
      all_goals
        go_wp2_with (go_at_call 331; refine (atom_c _ _).mono ?_; rintro e w' ⟨rfl, rfl⟩)
        all_goals
          have hR := HR.out
          clear H HR
          simp only [plainGo, *, ↓reduceIte, Bool.false_eq_true] at hR
          first
            | (go_ret; exact ⟨by rw [← hR]; rfl, rfl⟩)
            | (go_round
               case rel => exact ⟨k + 1, 0, by omega, by omega, by go_num, rfl, hR⟩
               case measure => simp [intOf]; omega)
            | (go_round
               case rel => exact ⟨k + 1, q + 1, by omega, by omega, by go_num, by go_num, hR⟩
               case measure => simp [intOf]; omega)
    · have hE : k = s.size := by omega
      have hR := H.out
      rw [List.drop_eq_nil_of_le (by rw [bl_length]; omega)] at hR
      simp only [plainGo] at hR
      have HR := Lib.hid hR
      clear H hR hE
      go_wp2
      all_goals
        go_ret
        exact ⟨by rw [← HR.out]; simp_all, rfl⟩

/-! small -/
def lowB (c : UInt8) : UInt8 := if 65 ≤ c.toNat ∧ c.toNat ≤ 90 then c + 32 else c
theorem lowB_nat (c : UInt8) : ((lowB c).toNat : Int) = if 65 ≤ c.toNat ∧ c.toNat ≤ 90 then (c.toNat : Int) + 32 else c.toNat := by
  unfold lowB
  split
  · rename_i h
    rw [UInt8.toNat_add]
    simp
    omega
  · rfl
def smallL (l : List UInt8) : List UInt8 := l.map lowB
def mixB (l : List UInt8) (k j : Nat) : UInt8 := if j < k then lowB (l.getD j 0) else l.getD j 0
theorem mixB_zero (l : List UInt8) (j : Nat) : mixB l 0 j = l.getD j 0 := by simp [mixB]
theorem mixB_at (l : List UInt8) (k : Nat) : mixB l k k = l.getD k 0 := by simp [mixB]
theorem mixB_succ (l : List UInt8) (k j : Nat) (h : j ≠ k) : mixB l (k + 1) j = mixB l k j := by
  unfold mixB
  by_cases h1 : j < k
  · rw [if_pos (by omega), if_pos h1]
  · rw [if_neg (by omega), if_neg h1]
theorem mixB_self (l : List UInt8) (k : Nat) : mixB l (k + 1) k = lowB (l.getD k 0) := by simp [mixB]
theorem small_list (l : List UInt8) : (List.range l.length).map (mixB l l.length) = smallL l := by
  apply List.ext_getElem
  · simp [smallL]
  · intro i h1 h2
    have hi : i < l.length := by simpa using h1
    simp [smallL, mixB, hi]

def MixAt (w : World) (b n : Nat) (l : List UInt8) (k : Nat) : Prop := ∀ j, j < n → w.cell? ⟨b, j, none⟩ = some (.int .u8 ((mixB l k j).toNat : Int)) ∧ w.frozen? ⟨b, j, none⟩ = false
theorem MixAt.set {w : World} {b n : Nat} {l : List UInt8} {k : Nat} (h : MixAt w b n l k) (hk : k < n) (v : Int) (hv : ((mixB l (k + 1) k).toNat : Int) = v) : MixAt (w.setCell ⟨b, k, none⟩ (.int .u8 v)) b n l (k + 1) := by
  intro j hj
  rw [World.frozen?_setCell]
  refine ⟨?_, (h j hj).2⟩
  by_cases e : j = k
  · subst e
    rw [World.cell?_setCell_same w _ _ (h j hj).1, hv]
  · rw [World.cell?_setCell_other w _ _ _ (by intro h; cases h; exact e rfl), mixB_succ _ _ _ e]
    exact (h j hj).1
theorem MixAt.skip {w : World} {b n : Nat} {l : List UInt8} {k : Nat} (h : MixAt w b n l k) (hv : (mixB l (k + 1) k).toNat = (l.getD k 0).toNat) : MixAt w b n l (k + 1) := by
  intro j hj
  refine ⟨?_, (h j hj).2⟩
  by_cases e : j = k
  · subst e
    rw [hv, ← mixB_at]
    exact (h j hj).1
  · rw [mixB_succ _ _ _ e]
    exact (h j hj).1

set_option maxHeartbeats 400000 in
theorem small_c (s : ByteArray) (w : World) (hs : s.size ≤ maxLen) : Calls Tryz.prog 293 #[.string s] w fun e w' => e = .returned (.string (str (smallL (bl s)))) ∧ Below w.heap.size w w' := by
  unfold maxLen at hs
  have kb := fun W => Lib.run_convert_string_bytes (P := Tryz.prog) W 9 33 5 s Tryz.underlying9 Tryz.underlying33 Tryz.underlying5
  go_enter Tryz.func293, Tryz.ntmps293
  go_wp2
  go_loopw [10] (fun i wr => ∃ k : Nat, k ≤ s.size ∧ i = .int .i64 k ∧ MixAt wr w.heap.size s.size (bl s) k ∧ Below w.heap.size w wr) (fun i _ => s.size - (intOf i).toNat)
  case atStart =>
    refine ⟨0, Nat.zero_le _, rfl, fun j hj => ?_, (Below.refl _ w).trans ⟨rfl, rfl, rfl, by rw [Lib.bytesWorld_size]; omega, fun i hi => Lib.bytesWorld_at_old w 5 s i hi⟩⟩
    refine ⟨by rw [Lib.bytesWorld_cell w 5 s j hj, mixB_zero]; rfl, ?_⟩
    unfold World.frozen?
    rw [Lib.bytesWorld_at_new]
    have : s.size ≤ (Lib.bytesCells w 5 s).size := by simp [Lib.bytesCells]
    simp
    omega
  case round =>
    obtain ⟨k, hk, rfl, HC, HB⟩ := hrel
    by_cases hlt : k < s.size
    · obtain ⟨hc, hf⟩ := HC k hlt
      have h1 := mixB_self (bl s) k
      have h2 : (bl s).getD k 0 = (bl s).getD k 0 := rfl
      rw [mixB_at] at hc
      generalize hcd : (bl s).getD k 0 = c at hc h1
      have hcr := c.toNat_lt
      have hlow := lowB_nat c
      rw [← h1] at hlow
      have HL := Lib.hid hlow
      have HD := Lib.hid hcd
      clear hlow h1 h2 hcd
      go_wp2
      all_goals
        go_roundw
        case rel =>
          refine ⟨k + 1, by omega, by go_num, ?_, ?_⟩
          · have hL := HL.out
            first
              | exact HC.set hlt _ (by rw [hL, if_pos (by omega)]; omega)
              | exact HC.skip (by rw [HD.out]; rw [if_neg (by omega)] at hL; exact_mod_cast hL)
          · first
              | exact HB.setCell (Nat.le_refl _) _
              | exact HB
        case measure => simp [intOf]; omega
    · obtain rfl : k = s.size := by omega
      have hback : ∀ cap, (convert 33 9 (.slice (some ⟨w.heap.size, 0, none⟩) s.size cap)).run Tryz.prog wr = .ok (.string (str (smallL (bl s)))) wr := by
        intro cap
        have h := run_convert_bytes_arg (P := Tryz.prog) wr 33 5 Tryz.underlying33 Tryz.underlying5 w.heap.size 0 s.size cap ((smallL (bl s)).map fun b => (b.toNat : Int)) (by simp [smallL, bl_length]) (fun i hi => by
          have h1 := (HC i hi).1
          rw [Nat.zero_add, h1]
          have hi' : i < (bl s).length := by rw [bl_length]; exact hi
          simp [smallL, mixB, hi, hi']) 9 Tryz.underlying9
        rw [Lib.Lz.strOfNums_map] at h
        exact h
      clear HC
      go_wp2
      go_ret
      exact ⟨rfl, HB⟩

end Go.Proofs.YthbofddadgmghaaGreatDoor
