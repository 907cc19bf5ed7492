/- Walks of the package peer: New, Got; helpers of the laws. -/
import Derived.Test.YthbofddadgmghaaGreatDoorB7
set_option linter.unusedVariables false
set_option linter.unusedSimpArgs false
namespace Go.Proofs.YthbofddadgmghaaGreatDoor
open Go.RowKit Go.Shelf

/-- A slice of ints that can be read. -/
def IsInts (w : World) (v : Value) (l : List Int) : Prop := (v = .slice none 0 0 ∧ l = []) ∨ ∃ r o c, v = .slice (some ⟨r, o, none⟩) l.length c ∧ ∀ j (h : j < l.length), w.cell? ⟨r, o + j, none⟩ = some (.int .i64 l[j])
def PeerS.new (lm : Bool) (l : List Int) : PeerS := { lmtp := lm, refuse := l, f := ([], false), path := [], tos := [], text := [], inn := false, got := [], out := [] }

theorem cloneInts_c (v : Value) (l : List Int) (w : World) (h : IsInts w v l) (hl : l.length ≤ 1099511627776) :
    Calls Tryz.prog 76 #[v] w fun e w' => ∃ v', e = .returned v' ∧ w'.ownsRow w.heap.size 3 1 v' l.length (l.map (Value.int .i64)) ∧ Below w.heap.size w w' := by
  rcases h with ⟨rfl, rfl⟩ | ⟨r, o, c, rfl, hc⟩
  · refine (Tryz.slices_Clone_int_nil 0 0 w).mono ?_
    rintro e w' ⟨rfl, rfl⟩
    exact ⟨_, rfl, World.ownsRow_nil _ _ _ _, Below.refl _ _⟩
  · refine (Tryz.slices_Clone_int r o l.length c l w (Nat.le_refl _) (by omega) ?_).mono ?_
    · intro j hj
      rw [hc j hj]
      simp [List.getD, hj]
    · rintro e w' ⟨v', rfl, ho, _, hb⟩
      rw [List.take_length] at ho
      exact ⟨v', rfl, ho, hb⟩
theorem ownsInts {w : World} {B : Nat} {no : Nat → Prop} {v : Value} {l : List Int} (h : w.ownsRow B 3 1 v l.length (l.map (Value.int .i64))) (hn : ∀ k, B ≤ k → k < w.heap.size → no k) : IntsAt no v l w := by
  have hlt := h.lt
  have hcells := fun g hg => h.cells (g := g) hg
  rcases h.2 with ⟨h1, h2⟩ | ⟨g, cap, cur, hv, hb, hg, hnc, _⟩
  · exact .inl ⟨h1, List.eq_nil_of_length_eq_zero h2⟩
  · have hg2 : v.ownBlock = some g := by rw [hv]; rfl
    refine .inr ⟨g, 0, cap, hv, hnc, hn g hb (hlt g hg2).2, fun j hj => ?_⟩
    have := hcells g hg2 j (.int .i64 l[j]) (by simp [hj])
    rwa [Addr.add_lit] at this

theorem New_c (lm : Bool) (v : Value) (l : List Int) (w : World) (hE : Env w) (h : IsInts w v l) (hl : l.length ≤ 1099511627776) :
    Calls Tryz.prog 20 #[.bool lm, v] w fun e w' => ∃ b rv, e = .returned (.pointer (some ⟨b, 0, none⟩)) ∧ w.heap.size ≤ b ∧ w'.heap.size = b + 1 ∧ PeerRow (fun k => b ≤ k) (fun k => k < 9 ∨ (w.heap.size ≤ k ∧ k < b)) b (PeerS.new lm l) rv (.slice none 0 0) (.slice none 0 0) w' ∧ Below w.heap.size w w' := by
  have hc := cloneInts_c v l w h hl
  have HE := hE.size
  clear h
  go_enter Tryz.func20, Tryz.ntmps20
  go_wp2_with fail
  refine hc.mono ?_
  rintro e w1 ⟨v', rfl, ho, hB⟩
  have hsz := hB.size
  have hints : IntsAt (fun k => k < 9 ∨ (w.heap.size ≤ k ∧ k < w1.heap.size)) v' l w1 := ownsInts ho (fun k h1 h2 => .inr ⟨h1, h2⟩)
  obtain ⟨ao, cc, rfl⟩ := row_form ho
  have hB2 := belowAlloc w1 (.cells (rowP (PeerS.new lm l) (.slice ao l.length cc) (.slice none 0 0) (.slice none 0 0)) 130)
  have hrow : PeerRow (fun k => w1.heap.size ≤ k) (fun k => k < 9 ∨ (w.heap.size ≤ k ∧ k < w1.heap.size)) w1.heap.size (PeerS.new lm l) (.slice ao l.length cc) (.slice none 0 0) (.slice none 0 0) (w1.alloc (.cells (rowP (PeerS.new lm l) (.slice ao l.length cc) (.slice none 0 0) (.slice none 0 0)) 130)) := by
    refine ⟨heap_alloc_new w1 _, Nat.le_refl _, fun k hk => ?_, fun k hk ho => ?_, fun k hk => .inl hk, ?_, owns_nil, owns_nil, fun k hk => (by cases hk), fun k hk => (by cases hk), fun k hk => (by cases hk)⟩
    · simp at hk; omega
    · rcases hk with hk | hk <;> omega
    · exact hints.moves (own := fun k => w1.heap.size ≤ k) (Moves.ofBelow hB2) (fun k hk => by rcases hk with hk | hk <;> omega)
  have HF := Lib.hid (And.intro hrow (hB.trans (hB2.mono hsz)))
  clear hints hrow hB2 ho hc
  go_wp2
  go_ret
  exact ⟨_, _, rfl, hsz, by simp, HF.out.1, HF.out.2⟩

theorem cloneStrs_c (v : Value) (l : List (List UInt8)) (w : World) (h : w.ownsRow 0 9 1 v l.length (strCells l)) (hl : l.length ≤ 1099511627776) :
    Calls Tryz.prog 82 #[v] w fun e w' => ∃ v', e = .returned v' ∧ w'.ownsRow w.heap.size 9 1 v' l.length (strCells l) ∧ Below w.heap.size w w' := by
  have hcells := fun g hg => h.cells (g := g) hg
  rcases h.2 with ⟨rfl, h2⟩ | ⟨g, cap, cur, rfl, hb, hg, hnc, _⟩
  · obtain rfl := List.eq_nil_of_length_eq_zero h2
    refine (Tryz.slices_Clone_string_nil 0 0 w).mono ?_
    rintro e w' ⟨rfl, rfl⟩
    exact ⟨_, rfl, World.ownsRow_nil _ _ _ _, Below.refl _ _⟩
  · refine (Tryz.slices_Clone_string g 0 l.length cap (l.map str) w (by simp) (by omega) ?_).mono ?_
    · intro j hj
      rw [List.length_map] at hj
      have := hcells g rfl j (.string (str l[j])) (by simp [strCells, hj])
      rw [Addr.add_lit] at this
      rw [this]
      simp [List.getD, hj]
    · rintro e w' ⟨v', rfl, ho, _, hb⟩
      refine ⟨v', rfl, ?_, hb⟩
      rw [List.take_of_length_le (by simp)] at ho
      have he : (l.map str).map Value.string = strCells l := by simp [strCells, Function.comp_def]
      rwa [he] at ho
theorem Got_c (own no : Nat → Prop) (b : Nat) (p : PeerS) (rv tv gv : Value) (w : World) (h : PeerRow own no b p rv tv gv w) (hl : p.got.length ≤ 1099511627776) :
    Calls Tryz.prog 28 #[.pointer (some ⟨b, 0, none⟩)] w fun e w' => ∃ v', e = .returned v' ∧ w'.ownsRow w.heap.size 9 1 v' p.got.length (strCells p.got) ∧ Below w.heap.size w w' := by
  have c8 : w.cell? ⟨b, 8, none⟩ = some gv := h.cell 8
  have hc := cloneStrs_c gv p.got w h.got hl
  obtain ⟨ao, c, rfl⟩ := row_form h.got
  clear h
  go_enter Tryz.func28, Tryz.ntmps28
  go_wp2_with fail
  refine hc.mono ?_
  rintro e w1 ⟨v', rfl, ho, hB⟩
  obtain ⟨ao2, c2, rfl⟩ := row_form ho
  have HF := Lib.hid (And.intro ho hB)
  clear ho hB hc
  go_wp2
  go_ret
  exact ⟨_, rfl, HF.out.1, HF.out.2⟩

/-- Two slices of strings: are they alike? -/
theorem eqStrings_c (B1 B2 : Nat) (v u : Value) (l m : List (List UInt8)) (w : World) (h : w.ownsRow B1 9 1 v l.length (strCells l)) (h2 : w.ownsRow B2 9 1 u m.length (strCells m)) :
    Calls Tryz.prog 29 #[v, u] w fun e w' => e = .returned (.bool (decide (l = m))) ∧ Below w.heap.size w w' := by
  obtain ⟨ao, c, rfl⟩ := row_form h
  obtain ⟨au, cu, rfl⟩ := row_form h2
  have hmx : l.length ≤ 9223372036854775807 := by
    rcases h.2 with ⟨_, h⟩ | ⟨g, cap, cur, hv, hb, hg, hnc, hcm, _⟩
    · omega
    · unfold maxLen at hcm; omega
  by_cases hlen : l.length = m.length
  · have g0 : ((l.length : Int) != (m.length : Int)) = false := by rw [bne_eq_false_iff_eq]; omega
    have H1 := Lib.hid (owns_base h)
    have H2 := Lib.hid (owns_base h2)
    have HLEN := Lib.hid hlen
    clear h h2 hlen
    go_enter Tryz.func29, Tryz.ntmps29
    go_wp2_with fail
    go_loopw [5] (fun i wr => ∃ k : Nat, k ≤ l.length ∧ i = .int .i64 k ∧ Hid ((l.drop k = m.drop k) ↔ l = m) ∧ Below w.heap.size w wr) (fun i _ => l.length - (intOf i).toNat)
    case atStart => exact ⟨0, Nat.zero_le _, rfl, Iff.rfl, Below.refl _ _⟩
    case round =>
      obtain ⟨k, hk, rfl, H, hB⟩ := hrel
      by_cases hlt : k < l.length
      · have hlt2 : k < m.length := by have := HLEN.out; omega
        obtain ⟨g, c1, e1, x1⟩ := rowCell (n := 0) H1.out k hlt
        obtain ⟨g2, c2, e2, x2⟩ := rowCell (n := 0) H2.out k hlt2
        injection e1 with e1 _ e1'
        injection e2 with e2 _ e2'
        subst e1 e2 e1' e2'
        have y1 := cellsAt x1 hB
        have y2 := cellsAt x2 hB
        have hH := H.out
        rw [List.drop_eq_getElem_cons hlt, List.drop_eq_getElem_cons hlt2] at hH
        generalize l[k] = a at *
        generalize m[k] = d at *
        have HH := Lib.hid hH
        clear hH H x1 x2
        by_cases hab : a = d
        · have k1 : (a == d) = true := by rw [beq_iff_eq]; exact hab
          go_wp2
          have HAB := Lib.hid hab
          clear hab
          go_quiet (fail)
          go_wp2
          go_roundw
          case rel => exact ⟨k + 1, by omega, by go_num, Iff.trans (by rw [HAB.out]; simp) HH.out, bThen hB (Nat.le_refl _) (below_drewN _ _)⟩
          case measure => simp [intOf]; omega
        · have k1 : (a == d) = false := by rw [beq_eq_false_iff_ne]; exact hab
          have hne : decide (l = m) = false := decide_eq_false (fun h => hab (by have := HH.out.2 h; injection this))
          have HNE := Lib.hid hne
          clear hab hne
          go_wp2
          go_quiet (fail)
          go_wp2
          go_ret
          exact ⟨ret_bool (by rw [HNE.out]), bThen hB (Nat.le_refl _) (below_drewN _ _)⟩
      · have hyes : decide (l = m) = true := decide_eq_true (H.out.1 (by have := HLEN.out; rw [List.drop_eq_nil_of_le (by omega), List.drop_eq_nil_of_le (by omega)]))
        have HY := Lib.hid hyes
        have hke : k = l.length := by omega
        clear hyes H
        go_wp2
        go_ret
        exact ⟨ret_bool (by rw [HY.out]), hB⟩
  · have g0 : ((l.length : Int) != (m.length : Int)) = true := by rw [bne_iff_ne]; omega
    have hv : decide (l = m) = false := decide_eq_false (fun h => hlen (by rw [h]))
    rw [hv]
    clear h h2 hv
    go_enter Tryz.func29, Tryz.ntmps29
    go_wp2
    go_ret
    exact ⟨rfl, Below.refl _ _⟩

theorem within_c (n m : Int) (w : World) (hn : 0 ≤ n) (hn2 : n ≤ 9223372036854775807) (hm : 0 < m) (hm2 : m ≤ 9223372036854775807) :
    Calls Tryz.prog 33 #[.int .i64 n, .int .i64 m] w fun e w' => e = .returned (.int .i64 (n % m)) ∧ w = w' := by
  have e1 : IntKind.u64.wrap n = n := by simp [IntKind.wrap, IntKind.bits]; omega
  have e2 : IntKind.u64.wrap m = m := by simp [IntKind.wrap, IntKind.bits]; omega
  go_enter Tryz.func33, Tryz.ntmps33
  go_wp2
  go_ret
  have h1 := Int.emod_nonneg n (show m ≠ 0 by omega)
  have h2 := Int.emod_lt_of_pos n hm
  exact ⟨ret_int (by unfold wrap64; omega), rfl⟩

end Go.Proofs.YthbofddadgmghaaGreatDoor
