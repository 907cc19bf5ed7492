/- Walks of the packages reply (an answer of one line) and peer (its words, its bytes). -/
import Derived.Test.YthbofddadgmghaaGreatDoorA6
set_option linter.unusedVariables false
set_option linter.unusedSimpArgs false
namespace Go.Proofs.YthbofddadgmghaaGreatDoor
open Go.RowKit Go.Shelf

def printB (l : List UInt8) : Bool := l.all (fun b => decide (32 ≤ b.toNat) && decide (b.toNat ≤ 126))
theorem rplain_c (s : ByteArray) (w : World) (h : printB (bl s) = true) (hs : s.size ≤ 506) : Calls Tryz.prog 245 #[.string s] w fun e w' => e = .returned (.bool true) ∧ w = w' := by
  have g0 : decide ((s.size : Int) ≤ 506) = true := decide_eq_true (by omega)
  have hall : ∀ k (hk : k < s.size), 32 ≤ s[k].toNat ∧ s[k].toNat ≤ 126 := by
    intro k hk
    have := List.all_eq_true.1 h _ (List.getElem_mem (show k < (bl s).length by rw [bl_length]; exact hk))
    rw [bl_getElem s k hk] at this
    simpa using this
  have HA := Lib.hid hall
  clear hall h
  go_enter Tryz.func245, Tryz.ntmps245
  go_wp2
  go_loop [6] (fun i => ∃ k : Nat, k ≤ s.size ∧ i = .int .i64 k) (fun i => s.size - (intOf i).toNat)
  case atStart => exact ⟨0, Nat.zero_le _, rfl⟩
  case round =>
    obtain ⟨k, hk, rfl⟩ := hrel
    by_cases hlt : k < s.size
    · obtain ⟨l1, l2⟩ := HA.out k hlt
      have d1 : decide ((s[k].toNat : Int) < 32) = false := decide_eq_false (by omega)
      have d2 : decide ((126 : Int) < (s[k].toNat : Int)) = false := decide_eq_false (by omega)
      clear l1 l2
      go_wp2
      go_round
      case rel => exact ⟨k + 1, by omega, by go_num⟩
      case measure => simp [intOf]; omega
    · have hE : k = s.size := by omega
      go_wp2
      go_ret
      exact ⟨rfl, rfl⟩

theorem rmay1_c (s : ByteArray) (w : World) (h : printB (bl s) = true) (hs : s.size ≤ 506) : Calls Tryz.prog 244 #[.string s] w fun e w' => e = .returned (.bool false) ∧ w = w' := by
  have hp := rplain_c s w h hs
  clear h
  go_enter Tryz.func244, Tryz.ntmps244
  go_wp2_with fail
  refine hp.mono ?_
  rintro e w1 ⟨rfl, rfl⟩
  go_wp2
  go_ret
  exact ⟨rfl, rfl⟩

theorem indexFunc_c (b : Nat) (s : ByteArray) (w : World) (hc : w.cell? ⟨b, 0, none⟩ = some (.string s)) (h : printB (bl s) = true) (hs : s.size ≤ 506) :
    Calls Tryz.prog 273 #[.slice (some ⟨b, 0, none⟩) 1 1, .func (.func 244) #[] #[]] w fun e w' => e = .returned (.int .i64 (-1)) ∧ w = w' := by
  have hp := rmay1_c s w h hs
  clear h
  go_enter Tryz.func273, Tryz.ntmps273
  go_wp2
  go_loop [8] (fun i => ∃ k : Nat, k ≤ 1 ∧ i = .int .i64 k) (fun i => 1 - (intOf i).toNat)
  case atStart => exact ⟨0, Nat.zero_le _, rfl⟩
  case round =>
    obtain ⟨k, hk, rfl⟩ := hrel
    by_cases hlt : k = 0
    · subst hlt
      go_wp2_with fail
      refine hp.mono ?_
      rintro e w1 ⟨rfl, rfl⟩
      go_wp2
      go_round
      case rel => exact ⟨1, by omega, by go_num⟩
      case measure => simp [intOf]
    · have hE : k = 1 := by omega
      subst hE
      go_wp2
      go_ret
      exact ⟨rfl, rfl⟩

theorem containsFunc_c (b : Nat) (s : ByteArray) (w : World) (hc : w.cell? ⟨b, 0, none⟩ = some (.string s)) (h : printB (bl s) = true) (hs : s.size ≤ 506) :
    Calls Tryz.prog 243 #[.slice (some ⟨b, 0, none⟩) 1 1, .func (.func 244) #[] #[]] w fun e w' => e = .returned (.bool false) ∧ w = w' := by
  have hp := indexFunc_c b s w hc h hs
  clear h
  go_enter Tryz.func243, Tryz.ntmps243
  go_wp2_with fail
  refine hp.mono ?_
  rintro e w1 ⟨rfl, rfl⟩
  go_wp2
  go_ret
  exact ⟨rfl, rfl⟩

abbrev replyV (n : Int) (b : Nat) : Value := .agg #[.int .i64 n, .slice (some ⟨b, 0, none⟩) 1 1]
theorem replyMay_c (n : Int) (b : Nat) (s : ByteArray) (w : World) (hc : w.cell? ⟨b, 0, none⟩ = some (.string s)) (h : printB (bl s) = true) (hs : s.size ≤ 506) (h0 : 200 ≤ n) (h1 : n ≤ 599) :
    Calls Tryz.prog 198 #[replyV n b] w fun e w' => e = .returned (.bool true) ∧ Below w.heap.size w w' := by
  have g0 : decide (200 ≤ n) = true := decide_eq_true h0
  have g1 : decide (n ≤ 599) = true := decide_eq_true h1
  have hp := fun W hW => containsFunc_c b s W hW h hs
  obtain ⟨x0, x1, x2⟩ := cells2 w (.int .i64 n) (.slice (some ⟨b, 0, none⟩) 1 1) 184
  have f0 := x2 0
  have f1 := x2 1
  have HC := cellOld (.cells #[.int .i64 n, .slice (some ⟨b, 0, none⟩) 1 1] 184) hc
  clear x2 h h0 h1
  go_enter Tryz.func198, Tryz.ntmps198
  go_wp2_with fail
  refine (hp _ HC).mono ?_
  rintro e w1 ⟨rfl, rfl⟩
  go_wp2
  go_ret
  exact ⟨rfl, belowAlloc w _⟩

def replyL (n : Int) (l : List UInt8) : List UInt8 := Lib.itoa n ++ 32 :: l ++ [13, 10]
theorem cellsAt {w W : World} {b j : Nat} {v : Value} (h : w.cell? ⟨b, j, none⟩ = some v) (hb : Below w.heap.size w W) : W.cell? ⟨b, j, none⟩ = some v := (hb.cell (World.block_lt_of_cell? w _ h)).trans h
set_option maxHeartbeats 1000000 in
theorem replyBytes_c (n : Int) (b : Nat) (s : ByteArray) (w : World) (hE : Env w) (hc : w.cell? ⟨b, 0, none⟩ = some (.string s)) (h : printB (bl s) = true) (hs : s.size ≤ 506) (h0 : 200 ≤ n) (h1 : n ≤ 599) (hl : (Lib.itoa n).length ≤ 20) :
    Calls Tryz.prog 133 #[replyV n b] w fun e w' => e = .returned (.tuple #[.string (str (replyL n (bl s))), .int .i64 0]) ∧ Below w.heap.size w w' := by
  have hp := fun W hW => replyMay_c n b s W hW h hs h0 h1
  have hi := fun W hW => itoa_c n W hW (by omega) (by omega)
  have hrl : replyL n (bl s) = Lib.itoa n ++ [32] ++ bl s ++ [13, 10] := by simp [replyL]
  have hll : (replyL n (bl s)).length ≤ 600 := by rw [hrl]; simp [bl_length]; omega
  have HRL := Lib.hid hrl
  clear hrl
  generalize replyL n (bl s) = rl at *
  generalize Lib.itoa n = dl at *
  obtain ⟨x0, x1, x2⟩ := cells2 w (.int .i64 n) (.slice (some ⟨b, 0, none⟩) 1 1) 184
  have f0 := x2 0
  have f1 := x2 1
  have HC := cellOld (.cells #[.int .i64 n, .slice (some ⟨b, 0, none⟩) 1 1] 184) hc
  have hE1 := hE.below (belowAlloc w (.cells #[.int .i64 n, .slice (some ⟨b, 0, none⟩) 1 1] 184))
  have HB1 := Lib.hid (belowAlloc w (.cells #[.int .i64 n, .slice (some ⟨b, 0, none⟩) 1 1] 184))
  clear x2 h h0 h1 hc
  go_enter Tryz.func133, Tryz.ntmps133
  go_wp2_with fail
  generalize w.alloc (.cells #[.int .i64 n, .slice (some ⟨b, 0, none⟩) 1 1] 184) = W1 at *
  refine (hp _ HC).mono ?_
  rintro e w1 ⟨rfl, hB⟩
  clear hp
  have HC1 := cellsAt HC hB
  have y0 := cellsAt x0 hB
  have y1 := cellsAt x1 hB
  have hE2 := hE1.below hB
  have HB2 := Lib.hid (HB1.out.trans (hB.mono HB1.out.size))
  clear x0 x1 f0 f1 hB HC hE1 HB1
  have v0 := cellOld (.cells #[.pointer none, .slice none 0 0] 232) y0
  have v1 := cellOld (.cells #[.pointer none, .slice none 0 0] 232) y1
  go_wp2_with fail
  have hBu := Lib.fresh_isBuilder 232 5 w1
  have hBl := belowAlloc w1 (.cells #[.pointer none, .slice none 0 0] 232)
  go_loopw [14] (fun i wr => (i = .int .i64 0 ∧ IsB w1.heap.size w1.heap.size [] wr ∨ i = .int .i64 1 ∧ IsB w1.heap.size w1.heap.size rl wr) ∧ Below w1.heap.size w1 wr) (fun i _ => 1 - (intOf i).toNat)
  case atStart => exact ⟨.inl ⟨rfl, hBu⟩, hBl⟩
  case round =>
    obtain ⟨h, HB⟩ := hrel
    have hsz := HB.size
    have HCr := cellsAt HC1 HB
    have z0 := cellsAt y0 HB
    have z1 := cellsAt y1 HB
    have hEr := hE2.below HB
    clear HC1 y0 y1 hE2 v0 v1 hBu hBl
    rcases h with ⟨rfl, hb⟩ | ⟨rfl, hb⟩
    · go_wp2_with fail
      refine (hi _ hEr).mono ?_
      rintro e w2 ⟨rfl, hB2⟩
      have hb2 := hb.below hB2
      have u0 := cellsAt z0 hB2
      have u1 := cellsAt z1 hB2
      have uc := cellsAt HCr hB2
      have hsz2 := hB2.size
      have hsum : str dl ++ str [32] ++ s ++ str [13, 10] = str rl := by rw [HRL.out]; apply bl_inj; simp [bl, str]
      have hW := WriteString_c w1.heap.size w1.heap.size [] (str rl) w2 hb2 (by rw [str_size]; simp; omega) (by omega)
      rw [← hsum] at hW
      clear hsum
      go_wp2_with fail
      refine hW.mono ?_
      rintro e w3 ⟨rfl, hb3, hB3⟩
      go_wp2
      go_roundw
      case rel => exact ⟨.inr ⟨rfl, by simpa [HRL.out, bl] using hb3⟩, (HB.trans (hB2.mono hsz)).trans hB3⟩
      case measure => simp [intOf]
    · go_wp2_with fail
      refine (BString_c w1.heap.size w1.heap.size _ _ hb hsz).mono ?_
      rintro e w2 ⟨rfl, hB2⟩
      go_wp2
      go_ret2
      exact ⟨rfl, HB2.out.trans ((HB.mono HB2.out.size).trans (hB2.mono HB2.out.size))⟩

def wordsL (n : Int) : List UInt8 := if n = 220 then [104, 101, 114, 101] else if n = 250 then [111, 107] else if n = 354 then [103, 111, 32, 111, 110] else if n = 221 then [98, 121, 101] else if n = 500 then [119, 104, 97, 116, 63] else if n = 503 then [110, 111, 116, 32, 121, 101, 116] else [110, 111]
theorem words_c (n : Int) (w : World) : Calls Tryz.prog 134 #[.int .i64 n] w fun e w' => e = .returned (.string (str (wordsL n))) ∧ w = w' := by
  unfold wordsL
  by_cases c1 : n = 220
  · subst c1
    go_enter Tryz.func134, Tryz.ntmps134
    go_wp2
    go_ret
    exact ⟨rfl, rfl⟩
  · have g1 : (n == 220) = false := beq_eq_false_iff_ne.2 c1
    rw [if_neg c1]
    clear c1
    by_cases c2 : n = 250
    · subst c2
      go_enter Tryz.func134, Tryz.ntmps134
      go_wp2
      go_ret
      exact ⟨rfl, rfl⟩
    · have g2 : (n == 250) = false := beq_eq_false_iff_ne.2 c2
      rw [if_neg c2]
      clear c2
      by_cases c3 : n = 354
      · subst c3
        go_enter Tryz.func134, Tryz.ntmps134
        go_wp2
        go_ret
        exact ⟨rfl, rfl⟩
      · have g3 : (n == 354) = false := beq_eq_false_iff_ne.2 c3
        rw [if_neg c3]
        clear c3
        by_cases c4 : n = 221
        · subst c4
          go_enter Tryz.func134, Tryz.ntmps134
          go_wp2
          go_ret
          exact ⟨rfl, rfl⟩
        · have g4 : (n == 221) = false := beq_eq_false_iff_ne.2 c4
          rw [if_neg c4]
          clear c4
          by_cases c5 : n = 500
          · subst c5
            go_enter Tryz.func134, Tryz.ntmps134
            go_wp2
            go_ret
            exact ⟨rfl, rfl⟩
          · have g5 : (n == 500) = false := beq_eq_false_iff_ne.2 c5
            rw [if_neg c5]
            clear c5
            by_cases c6 : n = 503
            · subst c6
              go_enter Tryz.func134, Tryz.ntmps134
              go_wp2
              go_ret
              exact ⟨rfl, rfl⟩
            · have g6 : (n == 503) = false := beq_eq_false_iff_ne.2 c6
              rw [if_neg c6]
              clear c6
              go_enter Tryz.func134, Tryz.ntmps134
              go_wp2
              go_ret
              exact ⟨rfl, rfl⟩
theorem words_plain (n : Int) : printB (wordsL n) = true ∧ (wordsL n).length ≤ 7 := by
  unfold wordsL
  repeat' split
  all_goals decide

/-- What a peer says with a code. -/
def saysL (n : Int) : List UInt8 := replyL n (wordsL n)
theorem itoa3 {n : Int} (h0 : 200 ≤ n) (h1 : n ≤ 599) : (Lib.itoa n).length ≤ 20 := by
  have h400 : ∀ k : Fin 400, (Lib.itoa ((k.1 : Int) + 200)).length ≤ 20 := by decide +kernel
  have := h400 ⟨n.toNat - 200, by omega⟩
  have hn : ((n.toNat - 200 : Nat) : Int) + 200 = n := by omega
  rwa [hn] at this
theorem saysL_len {n : Int} (h0 : 200 ≤ n) (h1 : n ≤ 599) : (saysL n).length ≤ 40 := by
  have := itoa3 h0 h1
  have := (words_plain n).2
  simp [saysL, replyL]
  omega
theorem bytes_c (n : Int) (w : World) (hE : Env w) (h0 : 200 ≤ n) (h1 : n ≤ 599) : Calls Tryz.prog 77 #[.int .i64 n] w fun e w' => e = .returned (.string (str (saysL n))) ∧ Below w.heap.size w w' := by
  have hp := words_plain n
  have hr := fun W hW hC => replyBytes_c n w.heap.size (str (wordsL n)) W hW hC hp.1 (by rw [str_size]; omega) h0 h1 (itoa3 h0 h1)
  have hw := words_c n w
  have HS : Hid (saysL n = replyL n (bl (str (wordsL n)))) := rfl
  clear hp h0 h1
  generalize saysL n = sl at *
  generalize wordsL n = wl at *
  go_enter Tryz.func77, Tryz.ntmps77
  go_wp2_with fail
  refine hw.mono ?_
  rintro e w1 ⟨rfl, rfl⟩
  go_wp2_with fail
  refine (hr _ (hE.below (belowAlloc w _)) (cell_alloc_new _ _ _ _)).mono ?_
  rintro e w1 ⟨rfl, hB⟩
  go_wp2
  go_ret
  exact ⟨ret_str (by rw [HS.out]), (belowAlloc w _).trans (hB.mono (by simp))⟩
theorem Greets_c (v : Value) (w : World) (hE : Env w) : Calls Tryz.prog 22 #[v] w fun e w' => e = .returned (.string (str (saysL 220))) ∧ Below w.heap.size w w' := by
  have hb := bytes_c 220 w hE (by decide) (by decide)
  go_enter Tryz.func22, Tryz.ntmps22
  go_wp2_with fail
  refine hb.mono ?_
  rintro e w1 ⟨rfl, hB⟩
  go_wp2
  go_ret
  exact ⟨rfl, hB⟩

end Go.Proofs.YthbofddadgmghaaGreatDoor
