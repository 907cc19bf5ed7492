/- Walks of the package peer: line. -/
import Derived.Test.YthbofddadgmghaaGreatDoorB4
set_option linter.unusedVariables false
set_option linter.unusedSimpArgs false
namespace Go.Proofs.YthbofddadgmghaaGreatDoor
open Go.RowKit Go.Shelf

def ehloL : List UInt8 := [69, 72, 76, 79, 32]
def lhloL : List UInt8 := [76, 72, 76, 79, 32]
def mailL : List UInt8 := [77, 65, 73, 76, 32, 70, 82, 79, 77, 58, 60]
def rcptL : List UInt8 := [82, 67, 80, 84, 32, 84, 79, 58]
def dataL : List UInt8 := [68, 65, 84, 65]
def quitL : List UInt8 := [81, 85, 73, 84]
def PeerS.line (p : PeerS) (x : List UInt8 × Bool) : PeerS :=
  if x.2 = true then p.say 500
  else if p.inn = true then (if (takeL x.1).2 = true then p.ends else { p with text := p.text ++ ((takeL x.1).1 ++ [13, 10]) })
  else if prefB ehloL x.1 = true then p.say 250
  else if prefB lhloL x.1 = true then p.say 250
  else if prefB mailL x.1 = true ∧ suffB [62] (x.1.drop 11) = true then p.mail ((x.1.drop 11).take (x.1.length - 1 - 11))
  else if prefB rcptL x.1 = true then p.rcpt (x.1.drop 8)
  else if x.1 = dataL then p.data
  else if x.1 = quitL then p.say 221
  else p.say 500

theorem pref_len {p s : List UInt8} (h : prefB p s = true) : p.length ≤ s.length := by
  unfold prefB Lib.hasPrefix at h
  exact (List.isPrefixOf_iff_prefix.1 h).length_le
theorem suff_len {p s : List UInt8} (h : suffB p s = true) : p.length ≤ s.length := by
  unfold suffB Lib.hasSuffix at h
  exact (List.isSuffixOf_iff_suffix.1 h).length_le
theorem takeL_len (l : List UInt8) : (takeL l).1.length ≤ l.length := by
  unfold takeL
  split
  · simp
  · simp only [Lib.trimPrefix]
    split
    · simp
    · exact Nat.le_refl _

/-- What 'line' hands back. -/
abbrev LinePost (own no : Nat → Prop) (b : Nat) (q : PeerS) (w : World) (e : Ending) (w' : World) : Prop := e = .returned (.tuple #[]) ∧ ∃ rv' tv' gv', PeerRow own no b q rv' tv' gv' w' ∧ Moves own w w'

set_option maxHeartbeats 2000000 in
theorem line_long (own no : Nat → Prop) (b : Nat) (p : PeerS) (rv tv gv : Value) (l : List UInt8) (w : World) (h : PeerRow own no b p rv tv gv w) (hE : Env w) (hl : p.out.length + 40 * (p.tos.length + 1) ≤ 1099511627776) :
    Calls Tryz.prog 79 #[.pointer (some ⟨b, 0, none⟩), lineV (l, true)] w (LinePost own no b (p.line (l, true)) w) := by
  have hB := belowAlloc w (.cells #[.string (str l), .bool true] 139)
  obtain ⟨x0, x1, x2⟩ := cells2 w (.string (str l)) (.bool true) 139
  have hs := say_c own no b p rv tv gv 500 _ (h.below hB) (hE.below hB) (by decide) (by decide) (by omega)
  have hv : p.line (l, true) = p.say 500 := by unfold PeerS.line; rw [if_pos rfl]
  rw [hv]
  have HB := Lib.hid (Moves.ofBelow (own := own) hB)
  clear hv h x2 hB
  go_enter Tryz.func79, Tryz.ntmps79
  go_wp2_with fail
  refine hs.mono ?_
  rintro e w2 ⟨rfl, h2, m2⟩
  go_wp2
  go_end0
  exact ⟨rfl, _, _, _, h2, HB.out.trans m2⟩

/-- Inside a text. -/
theorem line_text (own no : Nat → Prop) (b : Nat) (p : PeerS) (rv tv gv : Value) (l : List UInt8) (w : World) (h : PeerRow own no b p rv tv gv w) (hE : Env w) (hl : p.out.length + 40 * (p.tos.length + 1) ≤ 1099511627776) (hg : p.got.length + 3 * p.tos.length ≤ 1099511627776)
    (hll : l.length ≤ 1048576) (ht : p.text.length ≤ 1099511627776) (hin : p.inn = true) :
    Calls Tryz.prog 79 #[.pointer (some ⟨b, 0, none⟩), lineV (l, false)] w (LinePost own no b (p.line (l, false)) w) := by
  have hB := belowAlloc w (.cells #[.string (str l), .bool false] 139)
  obtain ⟨x0, x1, x2⟩ := cells2 w (.string (str l)) (.bool false) 139
  have h1 := h.below hB
  have hE1 := hE.below hB
  have c7 : (w.alloc (.cells #[.string (str l), .bool false] 139)).cell? ⟨b, 7, none⟩ = some (.bool p.inn) := h1.cell 7
  rw [hin] at c7
  have htk := fun W => Take_c (str l) W
  simp only [bl_str] at htk
  have htl := takeL_len l
  have hv : p.line (l, false) = if (takeL l).2 = true then p.ends else { p with text := p.text ++ ((takeL l).1 ++ [13, 10]) } := by unfold PeerS.line; rw [if_neg (by simp), if_pos hin]
  generalize takeL l = tk at *
  obtain ⟨t, last⟩ := tk
  have HB := Lib.hid (Moves.ofBelow (own := own) hB)
  cases last
  · rw [if_neg (by simp)] at hv
    rw [hv]
    simp only at htk htl
    have c6 : (w.alloc (.cells #[.string (str l), .bool false] 139)).cell? ⟨b, 6, none⟩ = some (.string (str p.text)) := h1.cell 6
    have f6 := h1.cold 6
    have s1 : (str p.text).size = p.text.length := str_size _
    have s2 : (str t).size = t.length := str_size _
    have s3 : (str t ++ str [13, 10]).size = t.length + 2 := by rw [str_append, str_size]; simp
    have hsum : str p.text ++ (str t ++ str [13, 10]) = str (p.text ++ (t ++ [13, 10])) := by rw [str_append, str_append]
    have hrow := h1.store 6 (.string (str (p.text ++ (t ++ [13, 10])))) { p with text := p.text ++ (t ++ [13, 10]) } rfl rfl rfl rfl
    have hm := HB.out.setCell (p := ⟨b, 6, none⟩) h.ownb (.string (str (p.text ++ (t ++ [13, 10]))))
    have HF := Lib.hid (And.intro hrow hm)
    rw [← hsum] at HF
    clear hv h x2 hB h1 hrow hm hin hsum
    go_enter Tryz.func79, Tryz.ntmps79
    go_wp2_with fail
    refine (htk _).mono ?_
    rintro e w2 ⟨rfl, rfl⟩
    go_wp2
    go_end0
    exact ⟨rfl, _, _, _, HF.out.1, HF.out.2⟩
  · rw [if_pos rfl] at hv
    rw [hv]
    have hend := ends_c own no b p rv tv gv _ h1 hE1 hl hg
    clear hv h x2 hB h1 hin
    go_enter Tryz.func79, Tryz.ntmps79
    go_wp2_with fail
    refine (htk _).mono ?_
    rintro e w2 ⟨rfl, rfl⟩
    go_wp2_with fail
    refine hend.mono ?_
    rintro e w2 ⟨rfl, rv2, gv2, h2, m2⟩
    go_wp2
    go_end0
    exact ⟨rfl, _, _, _, h2, HB.out.trans m2⟩

set_option maxHeartbeats 2000000 in
/-- Outside of a text: a command. -/
theorem line_cmd (own no : Nat → Prop) (b : Nat) (p : PeerS) (rv tv gv : Value) (l : List UInt8) (w : World) (h : PeerRow own no b p rv tv gv w) (hE : Env w) (hl : p.out.length + 40 * (p.tos.length + 1) ≤ 1099511627776) (hg : p.got.length + 3 * p.tos.length ≤ 1099511627776)
    (hll : l.length ≤ 1048576) (hin : p.inn = false) :
    Calls Tryz.prog 79 #[.pointer (some ⟨b, 0, none⟩), lineV (l, false)] w (LinePost own no b (p.line (l, false)) w) := by
  have hB := belowAlloc w (.cells #[.string (str l), .bool false] 139)
  obtain ⟨x0, x1, x2⟩ := cells2 w (.string (str l)) (.bool false) 139
  have h1 := h.below hB
  have hE1 := hE.below hB
  have c7 : (w.alloc (.cells #[.string (str l), .bool false] 139)).cell? ⟨b, 7, none⟩ = some (.bool p.inn) := h1.cell 7
  rw [hin] at c7
  have hz : (str l).size = l.length := str_size l
  have HB := Lib.hid (Moves.ofBelow (own := own) hB)
  have hv : p.line (l, false) = if prefB ehloL l = true then p.say 250
      else if prefB lhloL l = true then p.say 250
      else if prefB mailL l = true ∧ suffB [62] (l.drop 11) = true then p.mail ((l.drop 11).take (l.length - 1 - 11))
      else if prefB rcptL l = true then p.rcpt (l.drop 8)
      else if l = dataL then p.data
      else if l = quitL then p.say 221
      else p.say 500 := by unfold PeerS.line; rw [if_neg (by simp), if_neg (by rw [hin]; simp)]
  generalize p.line (l, false) = pl at *
  have hsay := fun n (h0 : 200 ≤ n) (h9 : n ≤ 599) => say_c own no b p rv tv gv n _ h1 hE1 h0 h9 (by omega)
  have hmail := fun x => mail_c own no b p rv tv gv x _ h1 hE1 (by omega)
  have hrcpt := fun x hx => rcpt_c own no b p rv tv gv x _ h1 hE1 (by omega) (by omega) hx
  have hdata := data_c own no b p rv tv gv _ h1 hE1 (by omega)
  have hsf := fun W => HasSuffix_c (str (l.drop 11)) (str [62]) W (by rw [str_size]; simp; omega)
  simp only [bl_str] at hsf
  have hd11 : 11 ≤ l.length → (str l).extract 11 (str l).size = str (l.drop 11) := fun _ => extract_end _ _
  clear h h1 hE1 x2 hB hin
  generalize hW1 : w.alloc (.cells #[.string (str l), .bool false] 139) = W1 at *
  cases b1 : prefB ehloL l
  · rw [if_neg (by simp [b1])] at hv
    have k1 : prefB (bl ⟨#[69, 72, 76, 79, 32]⟩) (bl (str l)) = false := b1
    cases b2 : prefB lhloL l
    · rw [if_neg (by simp [b2])] at hv
      have k2 : prefB (bl ⟨#[76, 72, 76, 79, 32]⟩) (bl (str l)) = false := b2
      cases b3 : prefB mailL l
      · rw [if_neg (by simp [b3])] at hv
        have k3 : prefB (bl ⟨#[77, 65, 73, 76, 32, 70, 82, 79, 77, 58, 60]⟩) (bl (str l)) = false := b3
        cases b5 : prefB rcptL l
        · rw [if_neg (by simp [b5])] at hv
          have k5 : prefB (bl ⟨#[82, 67, 80, 84, 32, 84, 79, 58]⟩) (bl (str l)) = false := b5
          by_cases b6 : l = dataL
          · rw [if_pos b6] at hv
            have k6 : (l == [68, 65, 84, 65]) = true := by rw [beq_iff_eq]; exact b6
            subst hv hW1
            clear b1 b2 b3 b5 b6 hsay hmail hrcpt hd11
            go_enter Tryz.func79, Tryz.ntmps79
            go_wp2_with (first
            | (go_at_call 141; refine (HasPrefix_c _ _ _).mono ?_; rintro e w' ⟨rfl, rfl⟩)
            | (go_at_call 142; refine (hsf _).mono ?_; rintro e w' ⟨rfl, rfl⟩))
            refine hdata.mono ?_
            rintro e w2 ⟨rfl, h2, m2⟩
            go_wp2
            go_end0
            exact ⟨rfl, _, _, _, h2, HB.out.trans m2⟩
          · rw [if_neg b6] at hv
            have k6 : (l == [68, 65, 84, 65]) = false := by rw [beq_eq_false_iff_ne]; exact b6
            by_cases b7 : l = quitL
            · rw [if_pos b7] at hv
              have k7 : (l == [81, 85, 73, 84]) = true := by rw [beq_iff_eq]; exact b7
              have hs := hsay 221 (by decide) (by decide)
              subst hv hW1
              clear b1 b2 b3 b5 b6 b7 hsay hmail hrcpt hdata hd11
              go_enter Tryz.func79, Tryz.ntmps79
              go_wp2_with (first
                | (go_at_call 141; refine (HasPrefix_c _ _ _).mono ?_; rintro e w' ⟨rfl, rfl⟩)
                | (go_at_call 142; refine (hsf _).mono ?_; rintro e w' ⟨rfl, rfl⟩))
              refine hs.mono ?_
              rintro e w2 ⟨rfl, h2, m2⟩
              go_wp2
              go_end0
              exact ⟨rfl, _, _, _, h2, HB.out.trans m2⟩
            · rw [if_neg b7] at hv
              have k7 : (l == [81, 85, 73, 84]) = false := by rw [beq_eq_false_iff_ne]; exact b7
              have hs := hsay 500 (by decide) (by decide)
              subst hv hW1
              clear b1 b2 b3 b5 b6 b7 hsay hmail hrcpt hdata hd11
              go_enter Tryz.func79, Tryz.ntmps79
              go_wp2_with (first
                | (go_at_call 141; refine (HasPrefix_c _ _ _).mono ?_; rintro e w' ⟨rfl, rfl⟩)
                | (go_at_call 142; refine (hsf _).mono ?_; rintro e w' ⟨rfl, rfl⟩))
              refine hs.mono ?_
              rintro e w2 ⟨rfl, h2, m2⟩
              go_wp2
              go_end0
              exact ⟨rfl, _, _, _, h2, HB.out.trans m2⟩
        · rw [if_pos b5] at hv
          have k5 : prefB (bl ⟨#[82, 67, 80, 84, 32, 84, 79, 58]⟩) (bl (str l)) = true := b5
          have n8 : 8 ≤ l.length := pref_len b5
          have hx8 : (str l).extract 8 l.length = str (l.drop 8) := by have := extract_end (str l) 8; rwa [hz] at this
          have hr := hrcpt (l.drop 8) (by simp; omega)
          rw [← hx8] at hr
          subst hv hW1
          clear b1 b2 b3 b5 hsay hmail hrcpt hdata hd11 hx8
          go_enter Tryz.func79, Tryz.ntmps79
          go_wp2_with (first
            | (go_at_call 141; refine (HasPrefix_c _ _ _).mono ?_; rintro e w' ⟨rfl, rfl⟩)
            | (go_at_call 142; refine (hsf _).mono ?_; rintro e w' ⟨rfl, rfl⟩))
          refine hr.mono ?_
          rintro e w2 ⟨rfl, rv2, tv2, h2, m2⟩
          go_wp2
          go_end0
          exact ⟨rfl, _, _, _, h2, HB.out.trans m2⟩
      · have k3 : prefB (bl ⟨#[77, 65, 73, 76, 32, 70, 82, 79, 77, 58, 60]⟩) (bl (str l)) = true := b3
        have n11 : 11 ≤ l.length := pref_len b3
        have hx11 := hd11 n11
        rw [hz] at hx11
        rw [← hx11] at hsf
        cases b4 : suffB [62] (l.drop 11)
        · rw [if_neg (by simp [b4])] at hv
          rw [b4] at hsf
          have hne : prefB rcptL l = false ∧ l ≠ dataL ∧ l ≠ quitL := by
            unfold prefB Lib.hasPrefix at b3
            obtain ⟨q, hq⟩ := List.isPrefixOf_iff_prefix.1 b3
            rw [← hq]
            refine ⟨by simp [prefB, Lib.hasPrefix, rcptL, mailL, List.isPrefixOf], by simp [mailL, dataL], by simp [mailL, quitL]⟩
          rw [if_neg (by simp [hne.1]), if_neg hne.2.1, if_neg hne.2.2] at hv
          have k5 : prefB (bl ⟨#[82, 67, 80, 84, 32, 84, 79, 58]⟩) (bl (str l)) = false := hne.1
          have k6 : (l == [68, 65, 84, 65]) = false := by rw [beq_eq_false_iff_ne]; exact hne.2.1
          have k7 : (l == [81, 85, 73, 84]) = false := by rw [beq_eq_false_iff_ne]; exact hne.2.2
          have hs := hsay 500 (by decide) (by decide)
          subst hv hW1
          clear b1 b2 b3 b4 hne hsay hmail hrcpt hdata hd11 hx11
          go_enter Tryz.func79, Tryz.ntmps79
          go_wp2_with (first
            | (go_at_call 141; refine (HasPrefix_c _ _ _).mono ?_; rintro e w' ⟨rfl, rfl⟩)
            | (go_at_call 142; refine (hsf _).mono ?_; rintro e w' ⟨rfl, rfl⟩))
          refine hs.mono ?_
          rintro e w2 ⟨rfl, h2, m2⟩
          go_wp2
          go_end0
          exact ⟨rfl, _, _, _, h2, HB.out.trans m2⟩
        · rw [if_pos ⟨b3, b4⟩] at hv
          rw [b4] at hsf
          have n12 : 12 ≤ l.length := by have := suff_len b4; simp at this; omega
          have hy : (str l).extract 11 (l.length - 1) = str ((l.drop 11).take (l.length - 1 - 11)) := bl_inj (bl_extract _ _ _)
          have hm := hmail ((l.drop 11).take (l.length - 1 - 11))
          rw [← hy] at hm
          have s1 : IntKind.i64.wrap ((l.length : Int) - 1) = (l.length : Int) - 1 := IntWalk.i64_in _ (by omega)
          have s3 : ((l.length : Int) - 1).toNat = l.length - 1 := by omega
          subst hv hW1
          clear b1 b2 b3 b4 hsay hmail hrcpt hdata hd11 hx11 hy
          go_enter Tryz.func79, Tryz.ntmps79
          go_wp2_with (first
            | (go_at_call 141; refine (HasPrefix_c _ _ _).mono ?_; rintro e w' ⟨rfl, rfl⟩)
            | (go_at_call 142; refine (hsf _).mono ?_; rintro e w' ⟨rfl, rfl⟩))
          refine hm.mono ?_
          rintro e w2 ⟨rfl, rv2, h2, m2⟩
          go_wp2
          go_end0
          exact ⟨rfl, _, _, _, h2, HB.out.trans m2⟩
    · rw [if_pos b2] at hv
      have k2 : prefB (bl ⟨#[76, 72, 76, 79, 32]⟩) (bl (str l)) = true := b2
      have hs := hsay 250 (by decide) (by decide)
      subst hv hW1
      clear b1 b2 hsay hmail hrcpt hdata hd11
      go_enter Tryz.func79, Tryz.ntmps79
      go_wp2_with (first
        | (go_at_call 141; refine (HasPrefix_c _ _ _).mono ?_; rintro e w' ⟨rfl, rfl⟩)
        | (go_at_call 142; refine (hsf _).mono ?_; rintro e w' ⟨rfl, rfl⟩))
      refine hs.mono ?_
      rintro e w2 ⟨rfl, h2, m2⟩
      go_wp2
      go_end0
      exact ⟨rfl, _, _, _, h2, HB.out.trans m2⟩
  · rw [if_pos b1] at hv
    have k1 : prefB (bl ⟨#[69, 72, 76, 79, 32]⟩) (bl (str l)) = true := b1
    have hs := hsay 250 (by decide) (by decide)
    subst hv hW1
    clear b1 hsay hmail hrcpt hdata hd11
    go_enter Tryz.func79, Tryz.ntmps79
    go_wp2_with (first
      | (go_at_call 141; refine (HasPrefix_c _ _ _).mono ?_; rintro e w' ⟨rfl, rfl⟩)
      | (go_at_call 142; refine (hsf _).mono ?_; rintro e w' ⟨rfl, rfl⟩))
    refine hs.mono ?_
    rintro e w2 ⟨rfl, h2, m2⟩
    go_wp2
    go_end0
    exact ⟨rfl, _, _, _, h2, HB.out.trans m2⟩

end Go.Proofs.YthbofddadgmghaaGreatDoor
