/- Walks of the package peer: mail, data, rcpt. -/
import Derived.Test.YthbofddadgmghaaGreatDoorB1
set_option linter.unusedVariables false
set_option linter.unusedSimpArgs false
namespace Go.Proofs.YthbofddadgmghaaGreatDoor
open Go.RowKit Go.Shelf

theorem row_form {w : World} {B e size n : Nat} {v : Value} {xs : List Value} (h : w.ownsRow B e size v n xs) : ∃ ao c, v = .slice ao n c := by
  rcases h.2 with ⟨rfl, rfl⟩ | ⟨g, cap, cur, rfl, _⟩
  · exact ⟨_, _, rfl⟩
  · exact ⟨_, _, rfl⟩

def PeerS.mail (p : PeerS) (x : List UInt8) : PeerS := ({ p.anew with path := x } : PeerS).ask
theorem mail_c (own no : Nat → Prop) (b : Nat) (p : PeerS) (rv tv gv : Value) (x : List UInt8) (w : World) (h : PeerRow own no b p rv tv gv w) (hE : Env w) (hl : p.out.length ≤ 1099511627776) :
    Calls Tryz.prog 143 #[.pointer (some ⟨b, 0, none⟩), .string (str x)] w fun e w' => e = .returned (.tuple #[]) ∧ ∃ rv', PeerRow own no b (p.mail x) rv' (.slice none 0 0) gv w' ∧ Moves own w w' := by
  have ha := anew_c own no b p rv tv gv w h
  have hlow := h.cool
  have HL := Lib.hid hlow
  clear h hlow
  go_enter Tryz.func143, Tryz.ntmps143
  go_wp2_with fail
  refine ha.mono ?_
  rintro e w1 ⟨rfl, h1, m1⟩
  have c4 := h1.cell 4
  have f4 := h1.cold 4
  have h2 := h1.store 4 (.string (str x)) { p.anew with path := x } rfl rfl rfl rfl
  have m2 := m1.setCell (p := ⟨b, 4, none⟩) h1.ownb (.string (str x))
  have hask := asked_c own no b _ rv _ gv _ h2 (m2.env HL.out hE) hl
  simp only [List.getElem?_toArray, List.getElem?_cons_succ, List.getElem?_cons_zero] at c4
  have M2 := Lib.hid m2
  clear h1 m1 h2 m2 ha
  go_wp2_with fail
  refine hask.mono ?_
  rintro e w2 ⟨rfl, rv', h3, m3⟩
  go_wp2
  go_end0
  exact ⟨rfl, rv', h3, M2.out.trans m3⟩

def PeerS.data (p : PeerS) : PeerS := if p.tos = [] then ({ p with inn := false } : PeerS).say 503 else ({ p with inn := true } : PeerS).say 354
theorem data_c (own no : Nat → Prop) (b : Nat) (p : PeerS) (rv tv gv : Value) (w : World) (h : PeerRow own no b p rv tv gv w) (hE : Env w) (hl : p.out.length ≤ 1099511627776) :
    Calls Tryz.prog 145 #[.pointer (some ⟨b, 0, none⟩)] w fun e w' => e = .returned (.tuple #[]) ∧ PeerRow own no b p.data rv tv gv w' ∧ Moves own w w' := by
  obtain ⟨ao, c, rfl⟩ := row_form h.tos
  have c5 : w.cell? ⟨b, 5, none⟩ = some (.slice ao p.tos.length c) := h.cell 5
  have c7 : w.cell? ⟨b, 7, none⟩ = some (.bool p.inn) := h.cell 7
  have f7 := h.cold 7
  cases ht : p.tos with
  | nil =>
    have hd : p.data = ({ p with inn := false } : PeerS).say 503 := by unfold PeerS.data; rw [if_pos ht]
    rw [hd]
    rw [ht] at c5 h
    have h2 := h.store 7 (.bool false) { p with inn := false } rfl rfl rfl rfl
    have m2 := (Moves.refl own w).setCell (p := ⟨b, 7, none⟩) h.ownb (.bool false)
    have c7' := h2.cell 7
    simp only [List.getElem?_toArray, List.getElem?_cons_succ, List.getElem?_cons_zero] at c7'
    have hs := say_c own no b _ _ _ _ 503 _ h2 (m2.env h.cool hE) (by decide) (by decide) hl
    have M2 := Lib.hid m2
    clear h h2 m2 ht hd
    go_enter Tryz.func145, Tryz.ntmps145
    go_wp2_with fail
    refine hs.mono ?_
    rintro e w2 ⟨rfl, h3, m3⟩
    go_wp2
    go_end0
    exact ⟨rfl, h3, M2.out.trans m3⟩
  | cons t r =>
    have hd : p.data = ({ p with inn := true } : PeerS).say 354 := by unfold PeerS.data; rw [if_neg (by rw [ht]; simp)]
    rw [hd]
    rw [ht] at c5 h
    have h2 := h.store 7 (.bool true) { p with inn := true } rfl rfl rfl rfl
    have m2 := (Moves.refl own w).setCell (p := ⟨b, 7, none⟩) h.ownb (.bool true)
    have c7' := h2.cell 7
    simp only [List.getElem?_toArray, List.getElem?_cons_succ, List.getElem?_cons_zero] at c7'
    have hs := say_c own no b _ _ _ _ 354 _ h2 (m2.env h.cool hE) (by decide) (by decide) hl
    have g0 : decide ((0 : Int) < ((r.length + 1 : Nat) : Int)) = true := decide_eq_true (by omega)
    have M2 := Lib.hid m2
    clear h h2 m2 ht hd
    simp only [List.length_cons] at c5
    go_enter Tryz.func145, Tryz.ntmps145
    go_wp2_with fail
    refine hs.mono ?_
    rintro e w2 ⟨rfl, h3, m3⟩
    go_wp2
    go_end0
    exact ⟨rfl, h3, M2.out.trans m3⟩

end Go.Proofs.YthbofddadgmghaaGreatDoor
