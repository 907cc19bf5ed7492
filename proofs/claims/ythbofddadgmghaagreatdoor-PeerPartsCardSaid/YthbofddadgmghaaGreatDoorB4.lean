/- Walks of the package peer: ends. -/
import Derived.Test.YthbofddadgmghaaGreatDoorB3
import Derived.Deep.AppendLies
set_option linter.unusedVariables false
set_option linter.unusedSimpArgs false
namespace Go.Proofs.YthbofddadgmghaaGreatDoor
open Go.RowKit Go.Shelf

def PeerS.one (ok : Bool) (p : PeerS) (x : List UInt8) : PeerS := if ok then p.take x else if p.lmtp then (if p.code = 250 then p.ask.take x else p.ask) else p
def PeerS.endsGo (ok : Bool) : List (List UInt8) → PeerS → PeerS
  | [], p => p
  | x :: r, p => endsGo ok r (p.one ok x)
def PeerS.ends (p : PeerS) : PeerS := (if p.lmtp then p.endsGo false p.tos else p.ask.endsGo (decide (p.code = 250)) p.tos).anew

theorem rowCell {w : World} {n : Nat} {v : Value} {l : List (List UInt8)} (h : w.ownsRow 0 9 1 v l.length (strCells l)) (k : Nat) (hk : k < l.length) :
    ∃ g c, v = .slice (some ⟨g, 0, none⟩) l.length c ∧ w.cell? ⟨g, k, none⟩ = some (.string (str l[k])) := by
  obtain ⟨g, c, hv, _⟩ := h.form (by omega)
  refine ⟨g, c, hv, ?_⟩
  have := h.cells (g := g) (by rw [hv]; rfl) k (.string (str l[k])) (by simp [strCells, hk])
  rwa [Addr.add_lit, Nat.zero_add] at this

structure EndsAt (own no : Nat → Prop) (b : Nat) (p : PeerS) (tv : Value) (w : World) (ok lm : Bool) (F : PeerS) (k : Nat) (q : PeerS) (rv' gv' : Value) (wr : World) : Prop where
  row : PeerRow own no b q rv' tv gv' wr
  mov : Moves own w wr
  tos : q.tos = p.tos
  lmtp : q.lmtp = lm
  goes : q.endsGo ok (p.tos.drop k) = F
  out : q.out.length ≤ p.out.length + 40 * (k + 1)
  got : q.got.length ≤ p.got.length + 3 * k

theorem ask_out (p : PeerS) : p.ask.out.length ≤ p.out.length + 40 := by
  have := code_range p
  have := saysL_len this.1 this.2
  simp [PeerS.ask]; omega

set_option maxHeartbeats 1000000 in
theorem ends_c (own no : Nat → Prop) (b : Nat) (p : PeerS) (rv tv gv : Value) (w : World) (h : PeerRow own no b p rv tv gv w) (hE : Env w) (hl : p.out.length + 40 * (p.tos.length + 1) ≤ 1099511627776) (hg : p.got.length + 3 * p.tos.length ≤ 1099511627776) :
    Calls Tryz.prog 140 #[.pointer (some ⟨b, 0, none⟩)] w fun e w' => e = .returned (.tuple #[]) ∧ ∃ rv' gv', PeerRow own no b p.ends rv' (.slice none 0 0) gv' w' ∧ Moves own w w' := by
  obtain ⟨ao, c, htv⟩ := row_form h.tos
  have hlow := h.cool
  have HL := Lib.hid hlow
  clear hlow
  have fin : ∀ (F : PeerS), p.ends = F.anew → ∀ q rv' gv' wr, PeerRow own no b q rv' tv gv' wr → Moves own w wr → q = F →
      Calls Tryz.prog 206 #[.pointer (some ⟨b, 0, none⟩)] wr fun e w' => e = .returned (.tuple #[]) ∧ ∃ rv' gv', PeerRow own no b p.ends rv' (.slice none 0 0) gv' w' ∧ Moves own w w' := by
    rintro F hF q rv' gv' wr hr hm rfl
    refine (anew_c own no b q rv' tv gv' wr hr).mono ?_
    rintro e w1 ⟨rfl, h1, m1⟩
    exact ⟨rfl, _, _, by rw [hF]; exact h1, hm.trans m1⟩
  have FIN := Lib.hid fin
  clear fin
  have c0 : w.cell? ⟨b, 0, none⟩ = some (.bool p.lmtp) := h.cell 0
  have c5 : w.cell? ⟨b, 5, none⟩ = some (.slice ao p.tos.length c) := by rw [← htv]; exact h.cell 5
  cases hlm : p.lmtp
  · rw [hlm] at c0
    have hend : p.ends = (p.ask.endsGo (decide (p.code = 250)) p.tos).anew := by unfold PeerS.ends; rw [if_neg (by rw [hlm]; simp)]
    have hask := asked_c own no b p rv tv gv w h hE (by omega)
    cases hc : decide (p.code = 250)
    · rw [hc] at hask hend
      have HEND := Lib.hid hend
      have HLM := Lib.hid hlm
      have HTV := Lib.hid htv
      clear h hend hlm hc htv
      go_enter Tryz.func140, Tryz.ntmps140
      go_wp2_with fail
      refine hask.mono ?_
      rintro e w1 ⟨rfl, rv1, h1, m1⟩
      have d5 : w1.cell? ⟨b, 5, none⟩ = some (.slice ao p.tos.length c) := by rw [← HTV.out]; exact h1.cell 5
      have E1 : EndsAt own no b p tv w false false (p.ask.endsGo false p.tos) 0 p.ask rv1 gv w1 := ⟨h1, m1, rfl, HLM.out, rfl, by have := ask_out p; omega, by simp [PeerS.ask]⟩
      clear h1 m1 hask
      go_wp2_with fail
      generalize p.ask.endsGo false p.tos = F at *
      go_loopw [19] (fun i wr => ∃ (k : Nat) (q : PeerS) (rv' gv' : Value), k ≤ p.tos.length ∧ i = .int .i64 k ∧ EndsAt own no b p tv w false false F k q rv' gv' wr) (fun i _ => p.tos.length - (intOf i).toNat)
      case atStart => exact ⟨0, p.ask, rv1, gv, Nat.zero_le _, rfl, E1⟩
      case round =>
        obtain ⟨k, q, rv', gv', hk, rfl, E⟩ := hrel
        by_cases hlt : k < p.tos.length
        · have ht := E.row.tos
          rw [E.tos] at ht
          obtain ⟨g, c2, hv2, hx⟩ := rowCell (n := 0) ht k hlt
          rw [HTV.out] at hv2
          injection hv2 with hv2 _ hv3
          subst hv2 hv3
          have hgo := E.goes
          rw [List.drop_eq_getElem_cons hlt, PeerS.endsGo] at hgo
          have q0 : wr.cell? ⟨b, 0, none⟩ = some (.bool q.lmtp) := E.row.cell 0
          rw [E.lmtp] at q0
          have hone : q.one false p.tos[k] = q := by unfold PeerS.one; rw [E.lmtp]; rfl
          rw [hone] at hgo
          have HGO := Lib.hid hgo
          generalize p.tos[k] = x at *
          clear hgo hone ht
          go_wp2
          go_roundw
          case rel => exact ⟨k + 1, q, rv', gv', by omega, by go_num, E.row, E.mov, E.tos, E.lmtp, HGO.out, by have := E.out; omega, by have := E.got; omega⟩
          case measure => simp [intOf]; omega
        · have hke : k = p.tos.length := by omega
          have hgo := E.goes
          rw [List.drop_eq_nil_of_le (by omega), PeerS.endsGo] at hgo
          have hf := FIN.out F HEND.out q rv' gv' wr E.row E.mov hgo
          clear hgo
          go_wp2_with fail
          refine hf.mono ?_
          rintro e w2 ⟨rfl, rv3, gv3, h3, m3⟩
          go_wp2
          go_end0
          exact ⟨rfl, _, _, h3, m3⟩
    · rw [hc] at hask hend
      have HEND := Lib.hid hend
      have HLM := Lib.hid hlm
      have HTV := Lib.hid htv
      clear h hend hlm hc htv
      go_enter Tryz.func140, Tryz.ntmps140
      go_wp2_with fail
      refine hask.mono ?_
      rintro e w1 ⟨rfl, rv1, h1, m1⟩
      have d5 : w1.cell? ⟨b, 5, none⟩ = some (.slice ao p.tos.length c) := by rw [← HTV.out]; exact h1.cell 5
      have E1 : EndsAt own no b p tv w true false (p.ask.endsGo true p.tos) 0 p.ask rv1 gv w1 := ⟨h1, m1, rfl, HLM.out, rfl, by have := ask_out p; omega, by simp [PeerS.ask]⟩
      clear h1 m1 hask
      go_wp2_with fail
      generalize p.ask.endsGo true p.tos = F at *
      go_loopw [19] (fun i wr => ∃ (k : Nat) (q : PeerS) (rv' gv' : Value), k ≤ p.tos.length ∧ i = .int .i64 k ∧ EndsAt own no b p tv w true false F k q rv' gv' wr) (fun i _ => p.tos.length - (intOf i).toNat)
      case atStart => exact ⟨0, p.ask, rv1, gv, Nat.zero_le _, rfl, E1⟩
      case round =>
        obtain ⟨k, q, rv', gv', hk, rfl, E⟩ := hrel
        by_cases hlt : k < p.tos.length
        · have ht := E.row.tos
          rw [E.tos] at ht
          obtain ⟨g, c2, hv2, hx⟩ := rowCell (n := 0) ht k hlt
          rw [HTV.out] at hv2
          injection hv2 with hv2 _ hv3
          subst hv2 hv3
          have hgo := E.goes
          rw [List.drop_eq_getElem_cons hlt, PeerS.endsGo] at hgo
          have htk := take_c own no b q rv' tv gv' p.tos[k] wr E.row (by have := E.got; omega)
          have hone : q.one true p.tos[k] = q.take p.tos[k] := rfl
          rw [hone] at hgo
          have HGO := Lib.hid hgo
          generalize p.tos[k] = x at *
          clear hgo hone ht
          go_wp2_with fail
          refine htk.mono ?_
          rintro e w2 ⟨rfl, gv2, h2, m2⟩
          go_wp2
          go_roundw
          case rel => exact ⟨k + 1, q.take x, rv', gv2, by omega, by go_num, h2, E.mov.trans m2, E.tos, E.lmtp, HGO.out, by have := E.out; simp [PeerS.take]; omega, by have := E.got; simp [PeerS.take]; omega⟩
          case measure => simp [intOf]; omega
        · have hke : k = p.tos.length := by omega
          have hgo := E.goes
          rw [List.drop_eq_nil_of_le (by omega), PeerS.endsGo] at hgo
          have hf := FIN.out F HEND.out q rv' gv' wr E.row E.mov hgo
          clear hgo
          go_wp2_with fail
          refine hf.mono ?_
          rintro e w2 ⟨rfl, rv3, gv3, h3, m3⟩
          go_wp2
          go_end0
          exact ⟨rfl, _, _, h3, m3⟩
  · rw [hlm] at c0
    have hend : p.ends = (p.endsGo false p.tos).anew := by unfold PeerS.ends; rw [if_pos hlm]
    have E1 : EndsAt own no b p tv w false true (p.endsGo false p.tos) 0 p rv gv w := ⟨h, Moves.refl own w, rfl, hlm, rfl, by omega, by omega⟩
    have HEND := Lib.hid hend
    have HLM := Lib.hid hlm
    have HTV := Lib.hid htv
    clear h hend hlm htv
    go_enter Tryz.func140, Tryz.ntmps140
    go_wp2_with fail
    generalize p.endsGo false p.tos = F at *
    go_loopw [19] (fun i wr => ∃ (k : Nat) (q : PeerS) (rv' gv' : Value), k ≤ p.tos.length ∧ i = .int .i64 k ∧ EndsAt own no b p tv w false true F k q rv' gv' wr) (fun i _ => p.tos.length - (intOf i).toNat)
    case atStart => exact ⟨0, p, rv, gv, Nat.zero_le _, rfl, E1⟩
    case round =>
      obtain ⟨k, q, rv', gv', hk, rfl, E⟩ := hrel
      by_cases hlt : k < p.tos.length
      · have ht := E.row.tos
        rw [E.tos] at ht
        obtain ⟨g, c2, hv2, hx⟩ := rowCell (n := 0) ht k hlt
        rw [HTV.out] at hv2
        injection hv2 with hv2 _ hv3
        subst hv2 hv3
        have hgo := E.goes
        rw [List.drop_eq_getElem_cons hlt, PeerS.endsGo] at hgo
        have q0 : wr.cell? ⟨b, 0, none⟩ = some (.bool q.lmtp) := E.row.cell 0
        rw [E.lmtp] at q0
        have hEr := E.mov.env HL.out hE
        have hask := asked_c own no b q rv' tv gv' wr E.row hEr (by have := E.out; omega)
        cases hc : decide (q.code = 250)
        · have hone : q.one false p.tos[k] = q.ask := by unfold PeerS.one; rw [E.lmtp, if_neg (by simp), if_pos rfl, if_neg (of_decide_eq_false hc)]
          rw [hone] at hgo
          rw [hc] at hask
          have HGO := Lib.hid hgo
          generalize p.tos[k] = x at *
          clear hgo hone ht hc
          go_wp2_with fail
          refine hask.mono ?_
          rintro e w2 ⟨rfl, rv2, h2, m2⟩
          go_wp2
          go_roundw
          case rel => exact ⟨k + 1, q.ask, rv2, gv', by omega, by go_num, h2, E.mov.trans m2, E.tos, E.lmtp, HGO.out, by have := E.out; have := ask_out q; omega, by have := E.got; simp [PeerS.ask]; omega⟩
          case measure => simp [intOf]; omega
        · have hone : q.one false p.tos[k] = q.ask.take p.tos[k] := by unfold PeerS.one; rw [E.lmtp, if_neg (by simp), if_pos rfl, if_pos (of_decide_eq_true hc)]
          rw [hone] at hgo
          rw [hc] at hask
          have HGO := Lib.hid hgo
          have htk := fun rv2 w2 hrow => take_c own no b q.ask rv2 tv gv' p.tos[k] w2 hrow (by have := E.got; simp [PeerS.ask]; omega)
          generalize p.tos[k] = x at *
          clear hgo hone ht hc
          go_wp2_with fail
          refine hask.mono ?_
          rintro e w2 ⟨rfl, rv2, h2, m2⟩
          have htk2 := htk _ _ h2
          go_wp2_with fail
          refine htk2.mono ?_
          rintro e w3 ⟨rfl, gv3, h3, m3⟩
          go_wp2
          go_roundw
          case rel => exact ⟨k + 1, q.ask.take x, rv2, gv3, by omega, by go_num, h3, E.mov.trans (m2.trans m3), E.tos, E.lmtp, HGO.out, by have := E.out; have := ask_out q; simp [PeerS.take]; omega, by have := E.got; simp [PeerS.ask, PeerS.take]; omega⟩
          case measure => simp [intOf]; omega
      · have hke : k = p.tos.length := by omega
        have hgo := E.goes
        rw [List.drop_eq_nil_of_le (by omega), PeerS.endsGo] at hgo
        have hf := FIN.out F HEND.out q rv' gv' wr E.row E.mov hgo
        clear hgo
        go_wp2_with fail
        refine hf.mono ?_
        rintro e w2 ⟨rfl, rv3, gv3, h3, m3⟩
        go_wp2
        go_end0
        exact ⟨rfl, _, _, h3, m3⟩

end Go.Proofs.YthbofddadgmghaaGreatDoor
