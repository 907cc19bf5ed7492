/- What package-level variables hold (Env); numbers read and written; labels and literals of domains. -/
import Derived.Test.YthbofddadgmghaaGreatDoorA2
import Derived.Lib.AppendIntMem
import Derived.Lib.SplitLaws
import Derived.WalkSmall
set_option linter.unusedVariables false
set_option linter.unusedSimpArgs false
namespace Go.Proofs.YthbofddadgmghaaGreatDoor
open Go.RowKit Go.Shelf

/-- What the library's own variables hold. -/
structure Env (w : World) : Prop where
  size : 9 ≤ w.heap.size
  maxLen : ∃ m, w.cell? ⟨1, 0, none⟩ = some (.int .i64 m)
  pow : Lib.TabIs Tryz.prog w "internal/strconv.uint64pow10" .u64 Lib.pow10Tab
  errS : ∃ t p, w.var? Tryz.prog "strconv.ErrSyntax" = some #[.iface t p]
  errR : ∃ t p, w.var? Tryz.prog "strconv.ErrRange" = some #[.iface t p]
  utf8 : Lib.Utf8Tabs 5 6 w

theorem named2 : Tryz.prog.globalNamed "internal/strconv.uint64pow10" = some 2 := by kernel_rfl
theorem named3 : Tryz.prog.globalNamed "strconv.ErrSyntax" = some 3 := by kernel_rfl
theorem named4 : Tryz.prog.globalNamed "strconv.ErrRange" = some 4 := by kernel_rfl

theorem Env.upto {w w' : World} {B : Nat} (h : Env w) (hB : 9 ≤ B) (hb : Below B w w') : Env w' := by
  refine ⟨by have := hb.size; have := h.size; omega, ?_, ?_, ?_, ?_, ?_, ?_⟩
  · obtain ⟨m, hm⟩ := h.maxLen
    exact ⟨m, (hb.cell (p := ⟨1, 0, none⟩) (by show 1 < B; omega)).trans hm⟩
  · exact var?_below hb named2 (by omega) h.pow
  · obtain ⟨t, p, hp⟩ := h.errS
    exact ⟨t, p, var?_below hb named3 (by omega) hp⟩
  · obtain ⟨t, p, hp⟩ := h.errR
    exact ⟨t, p, var?_below hb named4 (by omega) hp⟩
  · exact fun c hc => (hb.cell (p := ⟨5, c, none⟩) (by show 5 < B; omega)).trans (h.utf8.1 c hc)
  · exact fun i hi => ⟨(hb.cell (p := ⟨6, 2 * i, none⟩) (by show 6 < B; omega)).trans (h.utf8.2 i hi).1, (hb.cell (p := ⟨6, 2 * i + 1, none⟩) (by show 6 < B; omega)).trans (h.utf8.2 i hi).2⟩
theorem Env.below {w w' : World} (h : Env w) (hb : Below w.heap.size w w') : Env w' := h.upto h.size hb

theorem itoa_c (n : Int) (w : World) (hE : Env w) (h0 : -9223372036854775808 ≤ n) (h1 : n ≤ 9223372036854775807) :
    Calls Tryz.prog 200 #[.int .i64 n] w fun e w' => e = .returned (.string (str (Lib.itoa n))) ∧ Below w.heap.size w w' :=
  (Tryz.strconv_Itoa n h0 h1 w hE.pow).mono fun e w' ⟨he, k, os, hw⟩ => ⟨he, by rw [hw]; exact Lib.below_grow _ w (Nat.le_refl _) k os⟩

/-- What Atoi's error is: nil where the text spells an int. -/
def AtoiEnds (l : List UInt8) (n : Int) (ev : Value) : Prop := (Lib.atoiAll l = .ok n ∧ ev = .nilIface) ∨ ((∀ v, Lib.atoiAll l ≠ .ok v) ∧ ∃ t p, ev = .iface t (.pointer (some p)))
theorem atoi_c (s : ByteArray) (w : World) (hE : Env w) (hs : s.size ≤ 1099511627776) :
    Calls Tryz.prog 255 #[.string s] w fun e w' => ∃ n ev, e = .returned (.tuple #[.int .i64 n, ev]) ∧ AtoiEnds (bl s) n ev ∧ Below w.heap.size w w' := by
  cases h : Lib.atoiAll s.data.toList with
  | ok v =>
    refine (Tryz.strconv_Atoi_ok s (by omega) v h w).mono fun e w' ⟨he, hw⟩ => ⟨v, _, he, .inl ⟨h, rfl⟩, ?_⟩
    rcases hw with rfl | ⟨t, rfl⟩
    · exact Below.refl _ _
    · exact ⟨rfl, rfl, rfl, by rw [Lib.bytesWorld_size]; omega, fun i hi => Lib.bytesWorld_at_old w 5 t i hi⟩
  | range =>
    obtain ⟨t, p, hp⟩ := hE.errR
    refine (Tryz.strconv_Atoi_range_var s (by omega) h t p w hp).mono fun e w' ⟨N, he, _, _, hw⟩ => ⟨_, _, he, .inr ⟨fun v hv => ?_, _, _, rfl⟩, hw⟩
    rw [show bl s = s.data.toList from rfl, h] at hv
    cases hv
  | _ =>
    obtain ⟨t, p, hp⟩ := hE.errS
    refine (show Calls Tryz.prog 255 #[.string s] w fun e w' => ∃ N, e = .returned (.tuple #[.int .i64 0, .iface 305 (.pointer (some ⟨N, 0, none⟩))]) ∧ w.heap.size ≤ N ∧ w'.heap[N]? = some (.cells #[.string ⟨#[65, 116, 111, 105]⟩, .string s, .iface t p] 321 (0, 0)) ∧ Below w.heap.size w w' from Any.strconv_Atoi_syntax_var Tryz.laysC172 s (by omega) h t p w hp).mono fun e w' ⟨N, he, _, _, hw⟩ => ⟨0, _, he, .inr ⟨fun v hv => ?_, _, _, rfl⟩, hw⟩
    rw [show bl s = s.data.toList from rfl, h] at hv
    cases hv

/-! label -/
def labelGo (n : Nat) : Nat → List UInt8 → Bool
  | _, [] => true
  | i, c :: r => if signB (c.toNat : Int) then labelGo n (i + 1) r else if c.toNat = 45 ∧ i ≠ 0 ∧ i + 1 ≠ n then labelGo n (i + 1) r else false
def labelB (l : List UInt8) : Bool := labelGo l.length 0 l && (decide (1 ≤ l.length) && decide (l.length ≤ 63))

set_option maxHeartbeats 400000 in
theorem label_c (s : ByteArray) (w : World) (hs : s.size ≤ maxLen) : Calls Tryz.prog 217 #[.string s] w fun e w' => e = .returned (.bool (labelB (bl s))) ∧ w = w' := by
  unfold maxLen at hs
  go_enter Tryz.func217, Tryz.ntmps217
  go_wp2
  go_loop [6] (fun i => ∃ k : Nat, k ≤ s.size ∧ i = .int .i64 k ∧ Hid (labelGo s.size k ((bl s).drop k) = labelGo s.size 0 (bl s))) (fun i => s.size - (intOf i).toNat)
  case atStart => exact ⟨0, Nat.zero_le _, rfl, rfl⟩
  case round =>
    obtain ⟨k, hk, rfl, H⟩ := hrel
    by_cases hlt : k < s.size
    · have hR : labelGo s.size k (s[k] :: (bl s).drop (k + 1)) = labelGo s.size 0 (bl s) := by rw [← bl_drop s k hlt]; exact H.out
      rw [labelGo] at hR
      cases ha : signB (s[k].toNat : Int)
      · rw [ha, if_neg (by simp)] at hR
        by_cases c1 : s[k].toNat = 45
        · have b1 : ((s[k].toNat : Int) != 45) = false := by rw [bne_eq_false_iff_eq]; omega
          by_cases c2 : k = 0
          · rw [if_neg (by omega)] at hR
            have b2 : ((k : Int) == 0) = true := by rw [beq_iff_eq]; omega
            have HN := Lib.hid hR
            clear hR H c1 c2
            go_wp2_with (go_at_call 257; refine (sign_c _ _).mono ?_; rintro e w' ⟨rfl, rfl⟩)
            go_ret
            exact ⟨ret_bool (by rw [labelB, bl_length, ← HN.out]; rfl), rfl⟩
          · have b2 : ((k : Int) == 0) = false := by rw [beq_eq_false_iff_ne]; omega
            by_cases c3 : k + 1 = s.size
            · rw [if_neg (by omega)] at hR
              have b3 : ((k : Int) == (s.size : Int) - 1) = true := by rw [beq_iff_eq]; omega
              have HN := Lib.hid hR
              clear hR H c1 c2 c3
              go_wp2_with (go_at_call 257; refine (sign_c _ _).mono ?_; rintro e w' ⟨rfl, rfl⟩)
              go_ret
              exact ⟨ret_bool (by rw [labelB, bl_length, ← HN.out]; rfl), rfl⟩
            · rw [if_pos ⟨c1, c2, c3⟩] at hR
              have b3 : ((k : Int) == (s.size : Int) - 1) = false := by rw [beq_eq_false_iff_ne]; omega
              have HN := Lib.hid hR
              clear hR H c1 c2 c3
              go_wp2_with (go_at_call 257; refine (sign_c _ _).mono ?_; rintro e w' ⟨rfl, rfl⟩)
              go_round
              case rel => exact ⟨k + 1, by omega, by go_num, HN.out⟩
              case measure => simp [intOf]; omega
        · rw [if_neg (by omega)] at hR
          have b1 : ((s[k].toNat : Int) != 45) = true := by rw [bne_iff_ne]; omega
          have HN := Lib.hid hR
          clear hR H c1
          go_wp2_with (go_at_call 257; refine (sign_c _ _).mono ?_; rintro e w' ⟨rfl, rfl⟩)
          go_ret
          exact ⟨ret_bool (by rw [labelB, bl_length, ← HN.out]; rfl), rfl⟩
      · rw [ha, if_pos rfl] at hR
        have HN := Lib.hid hR
        clear hR H
        go_wp2_with (go_at_call 257; refine (sign_c _ _).mono ?_; rintro e w' ⟨rfl, rfl⟩)
        go_round
        case rel => exact ⟨k + 1, by omega, by go_num, HN.out⟩
        case measure => simp [intOf]; omega
    · obtain rfl : k = s.size := by omega
      have hR := H.out
      rw [List.drop_eq_nil_of_le (by rw [bl_length]; omega), labelGo] at hR
      have HN := Lib.hid hR
      clear H hR
      go_wp2
      all_goals
        go_ret
        exact ⟨ret_bool (by rw [labelB, bl_length, ← HN.out]; rw [Bool.eq_iff_iff]; simp; try omega), rfl⟩

/-! literal -/
def octB (l : List UInt8) : Bool := match Lib.atoiAll l with
  | .ok n => decide (0 ≤ n) && (decide (n ≤ 255) && decide (Lib.itoa n = l))
  | _ => false
def splitDots (s : ByteArray) : List ByteArray := Lib.splitB (str [46]) 0 (Lib.countB s (str [46])) s
def literalB (s : ByteArray) : Bool := (splitDots s).all (fun x => octB (bl x)) && decide ((splitDots s).length = 4)

theorem ba_toList (s : ByteArray) : s.toList = bl s := ByteArray.toList_eq s
theorem cell_alloc_new (w : World) (cs : Array Value) (T j : Nat) : (w.alloc (.cells cs T)).cell? ⟨w.heap.size, j, none⟩ = cs[j]? := by
  unfold World.cell?
  rw [heap_alloc_new]
  simp
theorem bThen {B : Nat} {a b c : World} (h : Below B a b) (hB : B ≤ a.heap.size) (k : Below b.heap.size b c) : Below B a c := h.trans (k.mono (by have := h.size; omega))
theorem bOfAlloc {w c : World} {o : Obj} (h : Below (w.heap.size + 1) (w.alloc o) c) : Below w.heap.size w c := ((Below.refl _ w).alloc (Nat.le_refl _) o).trans (h.mono (Nat.le_succ _))
theorem split_c (s : ByteArray) (w : World) (hE : Env w) (hs : s.size ≤ 1073741824) :
    Calls Tryz.prog 254 #[.string s, .string (str [46])] w fun e w' => e = .returned (.slice (some ⟨w.heap.size, 0, none⟩) (splitDots s).length (splitDots s).length) ∧ w' = w.alloc (.cells ((splitDots s).map Value.string).toArray 9) := by
  obtain ⟨m, hm⟩ := hE.maxLen
  have hl : (splitDots s).length = Lib.countB s (str [46]) + 1 := Lib.splitB_all _ (by decide) 0 _ s rfl
  rw [hl]
  exact Tryz.strings_Split s (str [46]) m w (by omega) hm (by decide)

theorem splitB_sizes (sep : ByteArray) : ∀ (k : Nat) (s : ByteArray), ∀ x ∈ Lib.splitB sep 0 k s, x.size ≤ s.size
  | 0, s, x, h => by rw [Lib.splitB] at h; simp at h; subst h; exact Nat.le_refl _
  | k + 1, s, x, h => by
    rw [Lib.splitB] at h
    split at h
    · simp at h; subst h; exact Nat.le_refl _
    · rcases List.mem_cons.1 h with rfl | h
      · simp [ByteArray.size_extract]; omega
      · have := splitB_sizes sep k _ x h
        have h2 : (s.extract ((Lib.indexB s sep).toNat + sep.size) s.size).size ≤ s.size := by simp [ByteArray.size_extract]
        omega

set_option maxHeartbeats 400000 in
theorem literal_c (s : ByteArray) (w : World) (hE : Env w) (hs : s.size ≤ 1073741824) : Calls Tryz.prog 215 #[.string s] w fun e w' => e = .returned (.bool (literalB s)) ∧ Below w.heap.size w w' := by
  have hss : ∀ x ∈ splitDots s, x.size ≤ s.size := splitB_sizes _ _ s
  have hlen : (splitDots s).length ≤ 1073741825 := by
    have hl : (splitDots s).length = Lib.countB s (str [46]) + 1 := Lib.splitB_all _ (by decide) 0 _ s rfl
    have := Lib.countB_le (str [46]) (by decide) _ s (Nat.le_refl _)
    omega
  have HLit : Hid (literalB s = ((splitDots s).all (fun x => octB (bl x)) && decide ((splitDots s).length = 4))) := rfl
  have hsp := split_c s w hE hs
  generalize splitDots s = l at *
  have HSS := Lib.hid hss
  clear hss
  go_enter Tryz.func215, Tryz.ntmps215
  go_wp2_with fail
  refine hsp.mono ?_
  rintro e w1 ⟨rfl, rfl⟩
  clear hsp
  go_wp2_with fail
  go_loopw [12] (fun i wr => ∃ k : Nat, k ≤ l.length ∧ i = .int .i64 k ∧ Hid ((l.drop k).all (fun x => octB (bl x)) = l.all (fun x => octB (bl x))) ∧ Below (w.heap.size + 1) (w.alloc (.cells (l.map Value.string).toArray 9)) wr) (fun i _ => l.length - (intOf i).toNat)
  case atStart => exact ⟨0, Nat.zero_le _, rfl, rfl, Below.refl _ _⟩
  case round =>
    obtain ⟨k, hk, rfl, H, HB⟩ := hrel
    by_cases hlt : k < l.length
    · have hR := H.out
      rw [List.drop_eq_getElem_cons hlt, List.all_cons] at hR
      have hx := HSS.out _ (List.getElem_mem hlt)
      have hc : wr.cell? ⟨w.heap.size, k, none⟩ = some (.string l[k]) := by
        rw [HB.cell (p := ⟨w.heap.size, k, none⟩) (by show w.heap.size < _; omega)]
        rw [cell_alloc_new]
        simp [hlt]
      have hE1 : Env wr := (hE.below ((Below.refl _ _).alloc (Nat.le_refl _) _)).upto (by have := hE.size; omega) HB
      generalize l[k] = x at *
      have hat := atoi_c x wr hE1 (by omega)
      have HR := Lib.hid hR
      clear hR H
      go_wp2_with fail
      refine hat.mono ?_
      rintro e w1 ⟨n, ev, rfl, hn, hB1⟩
      have hE2 := hE1.below hB1
      rcases hn with ⟨h1, rfl⟩ | ⟨h1, t, q, rfl⟩
      · have HN := Lib.hid h1
        clear h1
        have ho : octB (bl x) = (decide (0 ≤ n) && (decide (n ≤ 255) && decide (Lib.itoa n = bl x))) := by unfold octB; rw [HN.out]
        have hno : octB (bl x) = false → literalB s = false := fun h => by rw [HLit.out, ← HR.out, h]; rfl
        by_cases c1 : n < 0
        · have b1 : decide (n < 0) = true := decide_eq_true c1
          have hf := Lib.hid (hno (by rw [ho]; simp; omega))
          clear ho hno
          go_wp2_with fail
          go_ret
          exact ⟨ret_bool (by rw [hf.out]), bOfAlloc (bThen HB (by simp) hB1)⟩
        · have b1 : decide (n < 0) = false := decide_eq_false c1
          by_cases c2 : 255 < n
          · have b2 : decide (255 < n) = true := decide_eq_true c2
            have hf := Lib.hid (hno (by rw [ho]; simp; omega))
            clear ho hno
            go_wp2_with fail
            go_ret
            exact ⟨ret_bool (by rw [hf.out]), bOfAlloc (bThen HB (by simp) hB1)⟩
          · have b2 : decide (255 < n) = false := decide_eq_false c2
            have hit := itoa_c n w1 hE2 (by omega) (by omega)
            by_cases c3 : Lib.itoa n = bl x
            · have b3 : (Lib.itoa n == x.toList) = true := by rw [ba_toList, beq_iff_eq]; exact c3
              have hy : octB (bl x) = true := by rw [ho]; simp [c3]; omega
              have hR := HR.out
              rw [hy, Bool.true_and] at hR
              have HN2 := Lib.hid hR
              clear ho hno c3 hy hR
              go_wp2_with fail
              refine hit.mono ?_
              rintro e w2 ⟨rfl, hB2⟩
              go_wp2
              go_roundw
              case rel => exact ⟨k + 1, by omega, by go_num, HN2.out, bThen (bThen HB (by simp) hB1) (by simp) hB2⟩
              case measure => simp [intOf]; omega
            · have b3 : (Lib.itoa n == x.toList) = false := by rw [ba_toList, beq_eq_false_iff_ne]; exact c3
              have hf := Lib.hid (hno (by rw [ho]; simp [c3]))
              clear ho hno c3
              go_wp2_with fail
              refine hit.mono ?_
              rintro e w2 ⟨rfl, hB2⟩
              go_wp2
              go_ret
              exact ⟨ret_bool (by rw [hf.out]), bOfAlloc (bThen (bThen HB (by simp) hB1) (by simp) hB2)⟩
      · have ho : octB (bl x) = false := by
          unfold octB
          split
          · rename_i v hv; exact absurd hv (h1 v)
          · rfl
        have hf : Hid (literalB s = false) := by
          show literalB s = false
          rw [HLit.out, ← HR.out, ho]; rfl
        clear ho h1
        go_wp2_with fail
        go_ret
        exact ⟨ret_bool (by rw [hf.out]), bOfAlloc (bThen HB (by simp) hB1)⟩
    · obtain rfl : k = l.length := by omega
      have hR := H.out
      rw [List.drop_eq_nil_of_le (Nat.le_refl _)] at hR
      have hf : Hid (literalB s = decide (l.length = 4)) := by
        show literalB s = _
        rw [HLit.out, ← hR]; rfl
      clear hR H
      go_wp2_with fail
      go_ret
      exact ⟨ret_bool (by rw [hf.out]; rw [Bool.eq_iff_iff]; simp; try omega), bOfAlloc HB⟩

end Go.Proofs.YthbofddadgmghaaGreatDoor
