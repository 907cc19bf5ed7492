/- Walks of the package addr: quotes. -/
import Derived.Test.YthbofddadgmghaaGreatDoorA1
import Derived.Deep.RegionWith
import Derived.IntWalk
set_option linter.unusedVariables false
set_option linter.unusedSimpArgs false
namespace Go.Proofs.YthbofddadgmghaaGreatDoor
open Go.RowKit Go.Shelf

/-- What addr's readers panic with. -/
abbrev wrongV (n : Int) : Value := .iface 287 (.agg #[.int .i64 n])
abbrev wrongE (n : Int) : Ending := .panicked [{ v := wrongV n, recovered := false }]

set_option maxHeartbeats 400000 in
theorem must_yes (w : World) : Calls Tryz.prog 292 #[.bool true] w fun e w' => e = .returned (.tuple #[]) ∧ w = w' := by
  go_enter Tryz.func292, Tryz.ntmps292
  go_wp2
  go_end0
  exact ⟨rfl, rfl⟩
set_option maxHeartbeats 400000 in
theorem must_no (w : World) : Calls Tryz.prog 292 #[.bool false] w fun e w' => e = wrongE 8 ∧ w = w' := by
  go_enter Tryz.func292, Tryz.ntmps292
  go_wp2
  exact ⟨rfl, rfl, rfl⟩

def escL (l : List UInt8) : List UInt8 := l.flatMap fun c => if c.toNat = 34 ∨ c.toNat = 92 then [92, c] else [c]
theorem escL_snoc (l : List UInt8) (c : UInt8) : escL (l ++ [c]) = escL l ++ (if c.toNat = 34 ∨ c.toNat = 92 then [92, c] else [c]) := by simp [escL]
theorem escL_length (l : List UInt8) : (escL l).length ≤ 2 * l.length := by
  induction l with
  | nil => simp [escL]
  | cons c r ih =>
    have h : escL (c :: r) = (if c.toNat = 34 ∨ c.toNat = 92 then [92, c] else [c]) ++ escL r := by simp [escL]
    rw [h, List.length_append, List.length_cons]
    split <;> simp only [List.length_cons, List.length_nil] <;> omega
def quoteL (l : List UInt8) : List UInt8 := if plainB l then l else 34 :: (escL l ++ [34])

theorem IsB.below {B b : Nat} {l : List UInt8} {w w1 : World} (h : IsB B b l w) (hb : Below w.heap.size w w1) : IsB B b l w1 := by
  have key : ∀ p, Lib.BuilderAt 232 5 B b p (Lib.byteCells l) w → Lib.BuilderAt 232 5 B b p (Lib.byteCells l) w1 := by
    rintro p ⟨h1, v, hv, ho, hn⟩
    refine ⟨h1, v, ?_, ho.kept (row := none) ⟨hb.os, hb.tape, hb.output, hb.size, fun k hk _ => hb.block k hk⟩ ?_, hn⟩
    · rw [hb.block b (Array.getElem?_eq_some_iff.1 hv).1]; exact hv
    · cases v.ownBlock <;> simp
  rcases h with h | h
  · exact .inl (key _ h)
  · exact .inr (key _ h)
theorem IsB.drew {B b : Nat} {l : List UInt8} {w : World} (h : IsB B b l w) : IsB B b l w.drew := h.below ⟨rfl, rfl, rfl, Nat.le_refl _, fun _ _ => rfl⟩
theorem bl_extract (s : ByteArray) (a b : Nat) : bl (s.extract a b) = ((bl s).drop a).take (b - a) := Lib.extract_data s a b
theorem extract_end (s : ByteArray) (a : Nat) : s.extract a s.size = str ((bl s).drop a) := bl_inj (Lib.extract_to_end s a)
theorem bl_take (s : ByteArray) (k : Nat) (h : k < s.size) : (bl s).take (k + 1) = (bl s).take k ++ [s[k]] := by
  rw [List.take_succ_eq_append_getElem (by rw [bl_length]; exact h), bl_getElem]

set_option maxHeartbeats 400000 in
theorem quote_c (s : ByteArray) (w : World) (hs : s.size ≤ 1099511627776) : Calls Tryz.prog 316 #[.string s] w fun e w' => e = .returned (.string (str (quoteL (bl s)))) ∧ Below w.heap.size w w' := by
  have hs' : s.size ≤ maxLen := by unfold maxLen; omega
  cases hp : plainB (bl s)
  · go_enter Tryz.func316, Tryz.ntmps316
    go_wp2_with (first
      | (go_at_call 318; refine (plain_c _ _ hs').mono ?_; rintro e w' ⟨rfl, rfl⟩)
      | (go_at_call 330; refine (WriteByte_c w.heap.size w.heap.size [] 34 _ (Lib.fresh_isBuilder 232 5 _) (by simp) (by simp)).mono ?_; rintro e w1 ⟨rfl, hb, hB⟩))
    clear hs'
    go_loopw [11] (fun i wr => ∃ k : Nat, k ≤ s.size ∧ i = .int .i64 k ∧ IsB w.heap.size w.heap.size (34 :: escL ((bl s).take k)) wr ∧ Below w.heap.size w wr) (fun i _ => s.size - (intOf i).toNat)
    case atStart => exact ⟨0, Nat.zero_le _, rfl, hb, ((Below.refl _ _).alloc (Nat.le_refl _) _).trans hB⟩
    case round =>
      obtain ⟨k, hk, rfl, HBu, HB⟩ := hrel
      have hlen := escL_length ((bl s).take k)
      rw [List.length_take, bl_length] at hlen
      have hsz := HB.size
      by_cases hlt : k < s.size
      · have hesc := escL_snoc ((bl s).take k) s[k]
        rw [← bl_take s k hlt] at hesc
        by_cases hc : s[k].toNat = 34 ∨ s[k].toNat = 92
        · rw [if_pos hc] at hesc
          have HE := Lib.hid hesc
          clear hesc
          have finish : ∀ w2, IsB w.heap.size w.heap.size ((34 :: escL ((bl s).take k)) ++ [92] ++ [s[k]]) w2 → IsB w.heap.size w.heap.size (34 :: escL ((bl s).take (k + 1))) w2 := by
            intro w2 h
            rw [HE.out]
            simpa using h
          have hW := WriteByte_c w.heap.size w.heap.size _ 92 wr HBu (by simp; omega) (by omega)
          have hW2 := fun w1 h => WriteByte_c w.heap.size w.heap.size ((34 :: escL ((bl s).take k)) ++ [92]) s[k] w1 h (by simp; omega)
          by_cases h1 : s[k].toNat = 34
          · have b1 : ((s[k].toNat : Int) == 34) = true := by rw [beq_iff_eq]; omega
            clear h1 hc
            go_wp2_with fail
            refine hW.mono ?_
            rintro e w1 ⟨rfl, hb1, hB1⟩
            go_wp2_with fail
            refine (hW2 _ hb1 (by have := hB1.size; omega)).mono ?_
            rintro e w2 ⟨rfl, hb2, hB2⟩
            go_wp2
            go_roundw
            case rel => exact ⟨k + 1, by omega, by go_num, finish _ hb2, (HB.trans hB1).trans hB2⟩
            case measure => simp [intOf]; omega
          · have b1 : ((s[k].toNat : Int) == 34) = false := by rw [beq_eq_false_iff_ne]; omega
            have b2 : ((s[k].toNat : Int) == 92) = true := by rw [beq_iff_eq]; omega
            clear h1 hc
            go_wp2_with fail
            refine hW.mono ?_
            rintro e w1 ⟨rfl, hb1, hB1⟩
            go_wp2_with fail
            refine (hW2 _ hb1 (by have := hB1.size; omega)).mono ?_
            rintro e w2 ⟨rfl, hb2, hB2⟩
            go_wp2
            go_roundw
            case rel => exact ⟨k + 1, by omega, by go_num, finish _ hb2, (HB.trans hB1).trans hB2⟩
            case measure => simp [intOf]; omega
        · rw [if_neg hc] at hesc
          have HE := Lib.hid hesc
          clear hesc
          have b1 : ((s[k].toNat : Int) == 34) = false := by rw [beq_eq_false_iff_ne]; omega
          have b2 : ((s[k].toNat : Int) == 92) = false := by rw [beq_eq_false_iff_ne]; omega
          clear hc
          have hW := WriteByte_c w.heap.size w.heap.size _ s[k] wr HBu (by simp; omega) (by omega)
          go_wp2_with fail
          refine hW.mono ?_
          rintro e w1 ⟨rfl, hb1, hB1⟩
          go_wp2
          go_roundw
          case rel => exact ⟨k + 1, by omega, by go_num, by rw [HE.out]; simpa using hb1, HB.trans hB1⟩
          case measure => simp [intOf]; omega
      · obtain rfl : k = s.size := by omega
        rw [List.take_of_length_le (by rw [bl_length]; exact Nat.le_refl _)] at HBu
        have hS := BString_c w.heap.size w.heap.size _ wr HBu (by omega)
        go_wp2_with fail
        refine hS.mono ?_
        rintro e w1 ⟨rfl, hB1⟩
        have hL := escL_length (bl s)
        rw [bl_length] at hL
        go_wp2
        go_ret
        exact ⟨ret_str (by rw [quoteL, if_neg (by simp [hp])]; rfl), HB.trans hB1⟩
  · go_enter Tryz.func316, Tryz.ntmps316
    go_wp2_with (go_at_call 318; refine (plain_c _ _ hs').mono ?_; rintro e w' ⟨rfl, rfl⟩)
    go_ret
    exact ⟨ret_str (by rw [quoteL, if_pos hp, str_bl]), Below.refl _ _⟩

/-! quoted -/
def quotedGo : List UInt8 → List UInt8 → Option (List UInt8 × List UInt8)
  | _, [] => none
  | acc, c :: r => if c.toNat = 34 then some (acc, r) else if c.toNat = 92 then (match r with
      | [] => none
      | d :: q => if 32 ≤ d.toNat ∧ d.toNat ≤ 126 then quotedGo (acc ++ [d]) q else none)
    else if 32 ≤ c.toNat ∧ c.toNat ≤ 126 then quotedGo (acc ++ [c]) r else none
theorem quotedGo_cons (acc : List UInt8) (c : UInt8) (r : List UInt8) : quotedGo acc (c :: r) = if c.toNat = 34 then some (acc, r) else if c.toNat = 92 then (match r with
      | [] => none
      | d :: q => if 32 ≤ d.toNat ∧ d.toNat ≤ 126 then quotedGo (acc ++ [d]) q else none)
    else if 32 ≤ c.toNat ∧ c.toNat ≤ 126 then quotedGo (acc ++ [c]) r else none := by rw [quotedGo.eq_def]
def quotedL (l : List UInt8) : Option (List UInt8 × List UInt8) := quotedGo [] (l.drop 1)
def endSS : Option (List UInt8 × List UInt8) → Ending
  | some (m, r) => .returned (.tuple #[.string (str m), .string (str r)])
  | none => wrongE 8

set_option maxHeartbeats 1000000 in
theorem quoted_c (s : ByteArray) (w : World) (hs : s.size ≤ 1099511627776) : Calls Tryz.prog 315 #[.string s] w fun e w' => e = endSS (quotedL (bl s)) ∧ Below w.heap.size w w' := by
  go_enter Tryz.func315, Tryz.ntmps315
  go_wp2
  go_loopw [5] (fun i wr => ∃ (k : Nat) (acc : List UInt8), 1 ≤ k ∧ k ≤ s.size + 1 ∧ acc.length ≤ k ∧ i = .int .i64 k ∧ Hid (quotedGo acc ((bl s).drop k) = quotedL (bl s)) ∧ IsB w.heap.size w.heap.size acc wr ∧ Below w.heap.size w wr) (fun i _ => s.size + 1 - (intOf i).toNat)
  case atStart => exact ⟨1, [], Nat.le_refl _, by omega, by simp, rfl, rfl, Lib.fresh_isBuilder 232 5 _, (Below.refl _ _).alloc (Nat.le_refl _) _⟩
  case round =>
    obtain ⟨k, acc, h1, hk, hacc, rfl, HR, HBu, HB⟩ := hrel
    have hsz := HB.size
    by_cases hlt : k < s.size
    · have hR := HR.out
      rw [bl_drop s k hlt] at hR
      rw [quotedGo_cons] at hR
      have e1 := bl_getElem s k hlt
      by_cases c1 : s[k].toNat = 34
      · rw [if_pos c1] at hR
        have b1 : ((s[k].toNat : Int) == 34) = true := by rw [beq_iff_eq]; omega
        have HN := Lib.hid hR
        have hS := BString_c w.heap.size w.heap.size _ wr HBu (by omega)
        clear hR HR e1 c1
        go_wp2_with (go_at_call 292; (with_reducible refine (must_yes _).mono ?_); rintro e w' ⟨rfl, rfl⟩)
        have s1 : IntKind.i64.wrap ((k : Int) + 1) = (k : Int) + 1 := IntWalk.i64_in _ (by omega)
        have s2 : (0 : Int) ≤ (k : Int) + 1 := by omega
        have s3 : ((k : Int) + 1).toNat = k + 1 := by omega
        have s4 : k + 1 ≤ s.size := by omega
        go_region_with (go_at_call 201; refine (BString_c w.heap.size w.heap.size _ _ HBu.drew (by simp; omega)).mono ?_; rintro e w1 ⟨rfl, hB1⟩)
        all_goals go_wp2
        all_goals
          go_ret2
          refine ⟨?_, HB.trans ((Below.refl _ _).drew.trans hB1)⟩
          rw [← HN.out, extract_end]
          rfl
      · rw [if_neg c1] at hR
        have b1 : ((s[k].toNat : Int) == 34) = false := by rw [beq_eq_false_iff_ne]; omega
        by_cases c2 : s[k].toNat = 92
        · rw [if_pos c2] at hR
          have b2 : ((s[k].toNat : Int) == 92) = true := by rw [beq_iff_eq]; omega
          clear c1 c2
          by_cases hlt2 : k + 1 < s.size
          · have b3 : decide ((k : Int) + 1 < (s.size : Int)) = true := decide_eq_true (by omega)
            rw [bl_drop s (k + 1) hlt2] at hR
            simp only at hR
            by_cases p1 : 32 ≤ s[k + 1].toNat
            · have g1 : decide ((32 : Int) ≤ (s[k + 1].toNat : Int)) = true := decide_eq_true (by omega)
              by_cases p2 : s[k + 1].toNat ≤ 126
              · have g2 : decide ((s[k + 1].toNat : Int) ≤ 126) = true := decide_eq_true (by omega)
                rw [if_pos ⟨p1, p2⟩] at hR
                have HN := Lib.hid hR
                clear hR HR e1
                go_wp2_with (go_at_call 292; (with_reducible refine (must_yes _).mono ?_); rintro e w' ⟨rfl, rfl⟩)
                refine (WriteByte_c w.heap.size w.heap.size _ s[k + 1] wr HBu (by omega) (by omega)).mono ?_
                rintro e w1 ⟨rfl, hb1, hB1⟩
                go_wp2
                go_roundw
                case rel => exact ⟨k + 2, acc ++ [s[k + 1]], by omega, by omega, by simp; omega, by go_num, HN.out, hb1, HB.trans hB1⟩
                case measure => simp [intOf]; omega
              · have g2 : decide ((s[k + 1].toNat : Int) ≤ 126) = false := decide_eq_false (by omega)
                rw [if_neg (by omega)] at hR
                have HN := Lib.hid hR
                clear hR HR e1
                go_wp2_with (first | (go_at_call 292; (with_reducible refine (must_yes _).mono ?_); rintro e w' ⟨rfl, rfl⟩) | (go_at_call 292; (with_reducible refine (must_no _).mono ?_); rintro e w' ⟨rfl, rfl⟩))
                exact ⟨rfl, by rw [← HN.out]; rfl, HB⟩
            · have g1 : decide ((32 : Int) ≤ (s[k + 1].toNat : Int)) = false := decide_eq_false (by omega)
              rw [if_neg (by omega)] at hR
              have HN := Lib.hid hR
              clear hR HR e1
              go_wp2_with (first | (go_at_call 292; (with_reducible refine (must_yes _).mono ?_); rintro e w' ⟨rfl, rfl⟩) | (go_at_call 292; (with_reducible refine (must_no _).mono ?_); rintro e w' ⟨rfl, rfl⟩))
              exact ⟨rfl, by rw [← HN.out]; rfl, HB⟩
          · have b3 : decide ((k : Int) + 1 < (s.size : Int)) = false := decide_eq_false (by omega)
            rw [List.drop_eq_nil_of_le (by rw [bl_length]; omega)] at hR
            have HN := Lib.hid hR
            clear hR HR e1
            go_wp2_with (first | (go_at_call 292; (with_reducible refine (must_yes _).mono ?_); rintro e w' ⟨rfl, rfl⟩) | (go_at_call 292; (with_reducible refine (must_no _).mono ?_); rintro e w' ⟨rfl, rfl⟩))
            exact ⟨rfl, by rw [← HN.out]; rfl, HB⟩
        · rw [if_neg c2] at hR
          have b2 : ((s[k].toNat : Int) == 92) = false := by rw [beq_eq_false_iff_ne]; omega
          clear c1 c2
          by_cases p1 : 32 ≤ s[k].toNat
          · have g1 : decide ((32 : Int) ≤ (s[k].toNat : Int)) = true := decide_eq_true (by omega)
            by_cases p2 : s[k].toNat ≤ 126
            · have g2 : decide ((s[k].toNat : Int) ≤ 126) = true := decide_eq_true (by omega)
              rw [if_pos ⟨p1, p2⟩] at hR
              have HN := Lib.hid hR
              clear hR HR e1
              go_wp2_with (go_at_call 292; (with_reducible refine (must_yes _).mono ?_); rintro e w' ⟨rfl, rfl⟩)
              refine (WriteByte_c w.heap.size w.heap.size _ s[k] wr HBu (by omega) (by omega)).mono ?_
              rintro e w1 ⟨rfl, hb1, hB1⟩
              go_wp2
              go_roundw
              case rel => exact ⟨k + 1, acc ++ [s[k]], by omega, by omega, by simp; omega, by go_num, HN.out, hb1, HB.trans hB1⟩
              case measure => simp [intOf]; omega
            · have g2 : decide ((s[k].toNat : Int) ≤ 126) = false := decide_eq_false (by omega)
              rw [if_neg (by omega)] at hR
              have HN := Lib.hid hR
              clear hR HR e1
              go_wp2_with (first | (go_at_call 292; (with_reducible refine (must_yes _).mono ?_); rintro e w' ⟨rfl, rfl⟩) | (go_at_call 292; (with_reducible refine (must_no _).mono ?_); rintro e w' ⟨rfl, rfl⟩))
              exact ⟨rfl, by rw [← HN.out]; rfl, HB⟩
          · have g1 : decide ((32 : Int) ≤ (s[k].toNat : Int)) = false := decide_eq_false (by omega)
            rw [if_neg (by omega)] at hR
            have HN := Lib.hid hR
            clear hR HR e1
            go_wp2_with (first | (go_at_call 292; (with_reducible refine (must_yes _).mono ?_); rintro e w' ⟨rfl, rfl⟩) | (go_at_call 292; (with_reducible refine (must_no _).mono ?_); rintro e w' ⟨rfl, rfl⟩))
            exact ⟨rfl, by rw [← HN.out]; rfl, HB⟩
    · have hR := HR.out
      rw [List.drop_eq_nil_of_le (by rw [bl_length]; omega), quotedGo] at hR
      have HN := Lib.hid hR
      clear hR HR
      have hge : decide ((k : Int) < s.size) = false := by simp; omega
      go_wp2_with (go_at_call 292; (with_reducible refine (must_no _).mono ?_); rintro e w' ⟨rfl, rfl⟩)
      exact ⟨rfl, by rw [← HN.out]; rfl, HB⟩

end Go.Proofs.YthbofddadgmghaaGreatDoor
