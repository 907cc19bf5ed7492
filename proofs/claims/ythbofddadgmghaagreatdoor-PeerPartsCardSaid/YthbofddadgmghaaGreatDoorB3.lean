/- Walks of the package peer: rcpt. -/
import Derived.Test.YthbofddadgmghaaGreatDoorB2
set_option linter.unusedVariables false
set_option linter.unusedSimpArgs false
namespace Go.Proofs.YthbofddadgmghaaGreatDoor
open Go.RowKit Go.Shelf

def PeerS.rcpt (p : PeerS) (s : List UInt8) : PeerS :=
  if (pathL s).2.2 ≠ 0 ∨ (pathL s).2.1 = true then p.say 500
  else if p.code = 250 then { p.ask with tos := p.tos ++ [layL (pathL s).1.1 (pathL s).1.2] } else p.ask

theorem readL_len {l p d : List UInt8} (h : readL l = some (p, d)) : p.length ≤ 2 * l.length + 2 ∧ d.length ≤ l.length := by
  unfold readL at h
  cases hl : localL l with
  | none => rw [hl] at h; cases h
  | some q =>
    obtain ⟨p', r⟩ := q
    rw [hl] at h
    obtain ⟨h1, h2⟩ := localL_len hl
    simp only at h
    split at h
    · split at h
      · injection h with h
        injection h with h3 h4
        subst h3 h4
        have : (smallL (r.drop 1)).length ≤ r.length := by simp [smallL]
        omega
      · cases h
    · cases h
theorem pathL_len (l : List UInt8) : (pathL l).1.1.length ≤ 2 * l.length + 2 ∧ (pathL l).1.2.length ≤ l.length := by
  unfold pathL
  have hm : (midL l).length ≤ l.length := by unfold midL; simp; omega
  split
  · simp
  · split
    · cases hr : readL (midL l) with
      | none => simp
      | some q =>
        obtain ⟨p, d⟩ := q
        have := readL_len hr
        simp only
        omega
    · simp

set_option maxHeartbeats 1000000 in
theorem rcpt_c (own no : Nat → Prop) (b : Nat) (p : PeerS) (rv tv gv : Value) (s : List UInt8) (w : World) (h : PeerRow own no b p rv tv gv w) (hE : Env w) (hl : p.out.length ≤ 1099511627776) (ht : p.tos.length ≤ 1099511627776) (hs : s.length ≤ 1048576) :
    Calls Tryz.prog 144 #[.pointer (some ⟨b, 0, none⟩), .string (str s)] w fun e w' => e = .returned (.tuple #[]) ∧ ∃ rv' tv', PeerRow own no b (p.rcpt s) rv' tv' gv w' ∧ Moves own w w' := by
  obtain ⟨i0, hi, hz0, hz1, hz2⟩ := info_parts info9
  have hp := Path_c (str s) w hE (by rw [str_size]; omega)
  simp only [bl_str, endPath] at hp
  obtain ⟨q1, q2⟩ := pathL_len s
  have hr : p.rcpt s = if (pathL s).2.2 ≠ 0 ∨ (pathL s).2.1 = true then p.say 500
    else if p.code = 250 then { p.ask with tos := p.tos ++ [layL (pathL s).1.1 (pathL s).1.2] } else p.ask := rfl
  generalize p.rcpt s = pr at *
  generalize pathL s = ps at *
  obtain ⟨⟨bx, bd⟩, nl, er⟩ := ps
  simp only at hp q1 q2 hr
  have hsay := fun W hW hEW => say_c own no b p rv tv gv 500 W hW hEW (by decide) (by decide) hl
  have hask := fun W hW hEW => asked_c own no b p rv tv gv W hW hEW hl
  have hst : ∀ W, Below w.heap.size w W → ∀ o, PeerRow own no b p rv tv gv (W.alloc o) ∧ Env (W.alloc o) ∧ Moves own w (W.alloc o) := by
    intro W hW o
    have hb := hW.alloc hW.size o
    exact ⟨h.below hb, hE.below hb, Moves.ofBelow hb⟩
  have HST := Lib.hid hst
  clear hst
  by_cases h1 : er ≠ 0
  · have g1 : (er != 0) = true := by simpa using h1
    rw [if_pos (.inl h1)] at hr
    subst hr
    clear h h1
    go_enter Tryz.func144, Tryz.ntmps144
    go_wp2_with fail
    refine hp.mono ?_
    rintro e w1 ⟨rfl, hB⟩
    obtain ⟨r1, r2, r3⟩ := HST.out w1 hB (.cells #[.string (str bx), .string (str bd)] 75)
    go_wp2_with fail
    refine (hsay _ r1 r2).mono ?_
    rintro e w2 ⟨rfl, h3, m3⟩
    go_wp2
    go_end0
    exact ⟨rfl, _, _, h3, r3.trans m3⟩
  · have g1 : (er != 0) = false := by simpa using h1
    cases nl
    · rw [if_neg (by simp [h1])] at hr
      have hlay := fun W => Lay_c bx bd W (by omega)
      have hhole : ∀ w1, Below w.heap.size w w1 → ∃ own', PeerRow own' no b p rv tv gv (w1.alloc (.cells #[.string (str bx), .string (str bd)] 75)) ∧ ¬ own' w1.heap.size ∧ (∀ k, own' k → own k) := by
        intro w1 hB
        have hb := hB.alloc hB.size (.cells #[.string (str bx), .string (str bd)] 75)
        refine ⟨_, h.hole hb, ?_, fun k hk => hk.1⟩
        have := hB.size
        simp
        omega
      have hask2 := fun own' W hW hEW => asked_c own' no b p rv tv gv W hW hEW hl
      have HH := Lib.hid hhole
      have HP := Lib.hid h
      cases hc : decide (p.code = 250) with
      | false =>
        rw [if_neg (of_decide_eq_false hc)] at hr
        subst hr
        rw [hc] at hask
        clear h h1 hhole hask2 hlay hc
        go_enter Tryz.func144, Tryz.ntmps144
        go_wp2_with fail
        refine hp.mono ?_
        rintro e w1 ⟨rfl, hB⟩
        obtain ⟨r1, r2, r3⟩ := HST.out w1 hB (.cells #[.string (str bx), .string (str bd)] 75)
        go_wp2_with fail
        refine (hask _ r1 r2).mono ?_
        rintro e w2 ⟨rfl, rv', h3, m3⟩
        go_wp2
        go_end0
        exact ⟨rfl, _, _, h3, r3.trans m3⟩
      | true =>
        rw [if_pos (of_decide_eq_true hc)] at hr
        have HR := Lib.hid hr
        rw [hc] at hask2
        clear h h1 hhole hask hc hr
        go_enter Tryz.func144, Tryz.ntmps144
        go_wp2_with fail
        refine hp.mono ?_
        rintro e w1 ⟨rfl, hB⟩
        obtain ⟨r1, r2, r3⟩ := HST.out w1 hB (.cells #[.string (str bx), .string (str bd)] 75)
        obtain ⟨own', h2, hno, hsub⟩ := HH.out w1 hB
        obtain ⟨x0, x1, _⟩ := cells2 w1 (.string (str bx)) (.string (str bd)) 75
        go_wp2_with fail
        refine (hask2 own' _ h2 r2).mono ?_
        rintro e w3 ⟨rfl, rv', h3, m3⟩
        have d0 := m3.cell x0 hno
        have d1 := m3.cell x1 hno
        have m3' : Moves own w w3 := r3.trans (m3.mono (fun k _ hk => hsub k hk))
        have h3' := HP.out.fill h3 hsub (Nat.le_trans r3.size m3.size)
        have c5 : w3.cell? ⟨b, 5, none⟩ = some tv := h3.cell 5
        have f5 := h3.cold 5
        have ht4 : ∀ w4, Below w3.heap.size w3 w4 → (w4.alloc (.cells #[.string (str (layL bx bd))] 9)).ownsRow 0 9 1 tv p.tos.length (strCells p.tos) := fun w4 hw => (ownsBelow h3'.tos hw).alloc _
        have hc4 : ∀ w4, Below w3.heap.size w3 w4 → ∀ W1, (w4.alloc (.cells #[.string (str (layL bx bd))] 9)).grownBy W1 tv.ownBlock → W1.cell? ⟨b, 5, none⟩ = some tv ∧ W1.frozen? ⟨b, 5, none⟩ = false := by
          intro w4 hw W1 hgr
          have k1 := h3'.below (hw.alloc hw.size (.cells #[.string (str (layL bx bd))] 9))
          have k2 := (grown_moves k1 k1.towns hgr).2
          exact ⟨by unfold World.cell?; rw [k2]; rfl, frozen_of_row W1 b 5 _ _ k2⟩
        have hf : ∀ w4, Below w3.heap.size w3 w4 → ∀ ao n c W1, W1.ownsRow 0 9 1 (.slice ao n c) (p.tos.length + 1) (strCells p.tos ++ [.string (str (layL bx bd))]) → (w4.alloc (.cells #[.string (str (layL bx bd))] 9)).grownBy W1 tv.ownBlock →
            (∀ k, (Value.slice ao n c).ownBlock = some k → tv.ownBlock = some k ∨ (w4.alloc (.cells #[.string (str (layL bx bd))] 9)).heap.size ≤ k) →
            PeerRow own no b pr rv' (.slice ao n c) gv (W1.setCell ⟨b, 5, none⟩ (.slice ao n c)) ∧ Moves own w (W1.setCell ⟨b, 5, none⟩ (.slice ao n c)) := by
          intro w4 hw ao n c W1 ho hgr hk
          have hb := hw.alloc hw.size (.cells #[.string (str (layL bx bd))] 9)
          have k1 := h3'.below hb
          obtain ⟨u1, u2⟩ := k1.appendTo (news := [layL bx bd]) ho hgr hk
          rw [HR.out]
          exact ⟨u1, m3'.trans ((Moves.ofBelow hb).trans u2)⟩
        have hn1 : ∀ w4 : World, ∀ j u, ([.string (str (layL bx bd))] : List Value)[j]? = some u → (w4.alloc (.cells #[.string (str (layL bx bd))] 9)).cell? ((⟨w4.heap.size, 0, none⟩ : Addr).add j) = some u := by
          intro w4 j u hj
          match j, hj with
          | 0, hj => simp at hj; subst hj; simp [Addr.add]
        have HT4 := Lib.hid ht4
        have HC4 := Lib.hid hc4
        have HF4 := Lib.hid hf
        have HN1 := Lib.hid hn1
        have HO1 := Lib.hid (show ∀ u ∈ ([.string (str (layL bx bd))] : List Value), u.oneCell' = true from strCells_one [layL bx bd])
        clear ht4 hc4 hf hn1 h3 h3' m3 m3' h2 r1 r2 r3 x0 x1 hp hask2 hsay
        generalize layL bx bd = ll at *
        go_wp2
        go_region_law (first
          | (go_simp; go_at_call 210; refine (hlay _).mono ?_; rintro e w4 ⟨rfl, hB4⟩; have hB34 := (Below.refl w3.heap.size w3).drew.trans hB4; have q0 := cellsAt d0 hB34; have q1 := cellsAt d1 hB34; have q5 := cellsAt c5 hB34; have q5a := cellOld (.cells #[.string (str ll)] 9) q5)
          | (refine step_append_same (o := ⟨some 32, _, _, _, _, _⟩) rfl (.tmp 28) (.tmp 31) 37 rfl 9 i0 (.string ⟨#[]⟩) 1 16 Tryz.underlying37 hi hz0 hz1 hz2 rfl (by decide) tv p.tos.length (strCells p.tos) ?hs ?hown ⟨w4.heap.size, 0, none⟩ 1 1 [.string (str ll)] ?hx rfl ?hnews HO1.out (by unfold maxLen; omega) (by omega) ?_
             (case hs => simp [Act.eval, Act.put])
             (case hx => simp [Act.eval, Act.put])
             (case hown => exact HT4.out _ hB34)
             (case hnews => exact HN1.out w4)
             intro ao n' c' w5 ho hgr hk
             obtain ⟨d5, e5⟩ := HC4.out w4 hB34 w5 hgr))
        all_goals
          go_wp2
          go_end0
          obtain ⟨u1, u2⟩ := HF4.out _ hB34 _ _ _ _ ho hgr hk
          exact ⟨rfl, _, _, u1, u2⟩
    · rw [if_pos (.inr rfl)] at hr
      subst hr
      clear h h1
      go_enter Tryz.func144, Tryz.ntmps144
      go_wp2_with fail
      refine hp.mono ?_
      rintro e w1 ⟨rfl, hB⟩
      obtain ⟨r1, r2, r3⟩ := HST.out w1 hB (.cells #[.string (str bx), .string (str bd)] 75)
      go_wp2_with fail
      refine (hsay _ r1 r2).mono ?_
      rintro e w2 ⟨rfl, h3, m3⟩
      go_wp2
      go_end0
      exact ⟨rfl, _, _, h3, r3.trans m3⟩

end Go.Proofs.YthbofddadgmghaaGreatDoor
