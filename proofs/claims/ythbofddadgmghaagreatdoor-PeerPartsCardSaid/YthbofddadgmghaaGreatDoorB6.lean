/- A peer's growth (plain), and the walk of line for whatever line. -/
import Derived.Test.YthbofddadgmghaaGreatDoorB5
set_option linter.unusedVariables false
set_option linter.unusedSimpArgs false
namespace Go.Proofs.YthbofddadgmghaaGreatDoor
open Go.RowKit Go.Shelf

structure Small (N : Nat) (p : PeerS) : Prop where
  got : p.got.length + 3 * p.tos.length ≤ 3 * N
  out : p.out.length + 40 * p.tos.length ≤ 80 * N
  text : p.text.length ≤ 512 * N
theorem say_out (p : PeerS) {n : Int} (h0 : 200 ≤ n) (h1 : n ≤ 599) : (p.say n).out.length ≤ p.out.length + 40 := by
  have := saysL_len h0 h1
  simp [PeerS.say]; omega
theorem endsGo_len (ok : Bool) : ∀ (l : List (List UInt8)) (p : PeerS), (p.endsGo ok l).got.length ≤ p.got.length + 3 * l.length ∧ (p.endsGo ok l).out.length ≤ p.out.length + 40 * l.length := by
  intro l
  induction l with
  | nil => intro p; simp [PeerS.endsGo]
  | cons x r ih =>
    intro p
    rw [PeerS.endsGo]
    have h := ih (p.one ok x)
    have h1 : (p.one ok x).got.length ≤ p.got.length + 3 ∧ (p.one ok x).out.length ≤ p.out.length + 40 := by
      have := ask_out p
      unfold PeerS.one
      split
      · simp [PeerS.take]
      · split
        · split
          · refine ⟨by simp [PeerS.take, PeerS.ask], ?_⟩
            show p.ask.out.length ≤ _
            exact this
          · exact ⟨by simp [PeerS.ask], this⟩
        · omega
    simp only [List.length_cons]
    omega
theorem small_line {N : Nat} {p : PeerS} (h : Small N p) (x : List UInt8 × Bool) (hx : x.1.length ≤ 510) : Small (N + 1) (p.line x) := by
  obtain ⟨h1, h2, h3⟩ := h
  have hsay : ∀ (q : PeerS) (n : Int), 200 ≤ n → n ≤ 599 → q.got = p.got → q.tos = p.tos → q.out = p.out → q.text = p.text → Small (N + 1) (q.say n) := by
    intro q n h0 h9 e1 e2 e3 e4
    have := say_out q h0 h9
    refine ⟨?_, ?_, ?_⟩
    · show q.got.length + 3 * q.tos.length ≤ _; rw [e1, e2]; omega
    · show (q.say n).out.length + 40 * q.tos.length ≤ _; rw [e3] at this; rw [e2]; omega
    · show q.text.length ≤ _; rw [e4]; omega
  have ho := ask_out p
  unfold PeerS.line
  split
  · exact hsay p 500 (by decide) (by decide) rfl rfl rfl rfl
  · split
    · split
      · unfold PeerS.ends
        split
        · have := endsGo_len false p.tos p
          exact ⟨by simp [PeerS.anew]; omega, by simp [PeerS.anew]; omega, by simp [PeerS.anew]⟩
        · have := endsGo_len (decide (p.code = 250)) p.tos p.ask
          have e : p.ask.got = p.got := rfl
          rw [e] at this
          exact ⟨by simp [PeerS.anew]; omega, by simp [PeerS.anew]; omega, by simp [PeerS.anew]⟩
      · have := takeL_len x.1
        refine ⟨by show p.got.length + 3 * p.tos.length ≤ _; omega, by show p.out.length + 40 * p.tos.length ≤ _; omega, ?_⟩
        simp; omega
    · split
      · exact hsay p 250 (by decide) (by decide) rfl rfl rfl rfl
      · split
        · exact hsay p 250 (by decide) (by decide) rfl rfl rfl rfl
        · split
          · have := ask_out ({ p.anew with path := ((x.1.drop 11).take (x.1.length - 1 - 11)) } : PeerS)
            have e : ({ p.anew with path := ((x.1.drop 11).take (x.1.length - 1 - 11)) } : PeerS).out = p.out := rfl
            rw [e] at this
            refine ⟨?_, ?_, ?_⟩
            · show p.got.length + 3 * 0 ≤ _; omega
            · show (PeerS.mail p _).out.length + 40 * 0 ≤ _
              unfold PeerS.mail
              omega
            · show 0 ≤ _; omega
          · split
            · unfold PeerS.rcpt
              split
              · exact hsay p 500 (by decide) (by decide) rfl rfl rfl rfl
              · split
                · refine ⟨?_, ?_, ?_⟩
                  · show p.got.length + 3 * (p.tos ++ _).length ≤ _; simp; omega
                  · show p.ask.out.length + 40 * (p.tos ++ _).length ≤ _; simp; omega
                  · show p.text.length ≤ _; omega
                · refine ⟨?_, ?_, ?_⟩
                  · show p.got.length + 3 * p.tos.length ≤ _; omega
                  · show p.ask.out.length + 40 * p.tos.length ≤ _; omega
                  · show p.text.length ≤ _; omega
            · split
              · unfold PeerS.data
                split
                · exact hsay _ 503 (by decide) (by decide) rfl rfl rfl rfl
                · exact hsay _ 354 (by decide) (by decide) rfl rfl rfl rfl
              · split
                · exact hsay p 221 (by decide) (by decide) rfl rfl rfl rfl
                · exact hsay p 500 (by decide) (by decide) rfl rfl rfl rfl

theorem pline_c (own no : Nat → Prop) (b : Nat) (p : PeerS) (rv tv gv : Value) (x : List UInt8 × Bool) (N : Nat) (w : World) (h : PeerRow own no b p rv tv gv w) (hE : Env w) (hp : Small N p) (hN : N ≤ 1073741824) (hx : x.1.length ≤ 510) :
    Calls Tryz.prog 79 #[.pointer (some ⟨b, 0, none⟩), lineV x] w (LinePost own no b (p.line x) w) := by
  obtain ⟨h1, h2, h3⟩ := hp
  obtain ⟨l, long⟩ := x
  simp only at hx
  cases long
  · cases hin : p.inn
    · exact line_cmd own no b p rv tv gv l w h hE (by omega) (by omega) (by omega) hin
    · exact line_text own no b p rv tv gv l w h hE (by omega) (by omega) (by omega) (by omega) hin
  · exact line_long own no b p rv tv gv l w h hE (by omega)

theorem lineOf_len (l : List UInt8) (k : Bool) : (lineOf l k).1.length ≤ 510 := by
  unfold lineOf
  split
  · simp
  · rename_i h; simp at h ⊢; omega
theorem scan_lens : ∀ (l acc : List UInt8) (skip : Bool), (∀ x ∈ (scan skip acc l).2, x.1.length ≤ 510) ∧ (scan skip acc l).2.length ≤ l.length
  | [], acc, skip => by simp [scan]
  | c :: r, acc, skip => by
    rw [scan_cons]
    split
    · have := scan_lens r [] false
      refine ⟨?_, by simp; omega⟩
      intro x hx
      rcases List.mem_cons.1 hx with rfl | hx
      · exact lineOf_len _ _
      · exact this.1 x hx
    · have := scan_lens r (acc ++ [c]) skip
      exact ⟨this.1, by simp; omega⟩

end Go.Proofs.YthbofddadgmghaaGreatDoor
