/- Three peers beside each other: each moves, the other two stay as they are. -/
import Derived.Test.YthbofddadgmghaaGreatDoorC2
import Derived.Test.YthbofddadgmghaaGreatDoorC4
set_option linter.unusedVariables false
set_option linter.unusedSimpArgs false
namespace Go.Proofs.YthbofddadgmghaaGreatDoor
open Go.RowKit Go.Shelf

theorem ownsOfBlock {w w' : World} {B e size n : Nat} {v : Value} {xs : List Value} (h : w.ownsRow B e size v n xs) (hb : ∀ g, v.ownBlock = some g → w'.heap[g]? = w.heap[g]?) : w'.ownsRow B e size v n xs := by
  refine ⟨h.1, ?_⟩
  rcases h.2 with hn | ⟨g, cap, cur, rfl, hb0, hgg, rest⟩
  · exact .inl hn
  · refine .inr ⟨g, cap, cur, rfl, hb0, ?_, rest⟩
    rw [hb g rfl]
    exact hgg
/-- A peer lies at block b. -/
def Sits (no : Nat → Prop) (b : Nat) (p : PeerS) (own : Nat → Prop) (w : World) : Prop := ∃ rv tv gv, PeerRow own no b p rv tv gv w
def Apart (w : World) (o1 o2 : Nat → Prop) : Prop := ∀ k, k < w.heap.size → o1 k → ¬ o2 k
theorem Apart.symm {w : World} {o1 o2 : Nat → Prop} (h : Apart w o1 o2) : Apart w o2 o1 := fun k hk h2 h1 => h k hk h1 h2
abbrev kept (w w' : World) (own : Nat → Prop) : Nat → Prop := fun k => (k < w.heap.size ∧ own k) ∨ w'.heap.size ≤ k
theorem Sits.aside {no o1 o2 : Nat → Prop} {b : Nat} {p : PeerS} {w w' : World} (h : Sits no b p o1 w) (hm : Moves o2 w w') (ha : Apart w o1 o2) (hn : ∀ k, no k → ¬ o2 k ∧ k < w.heap.size) : Sits no b p (kept w w' o1) w' := by
  obtain ⟨rv, tv, gv, h⟩ := h
  have hb := h.lt
  have hk : ∀ x : Value, (∀ k, x.ownBlock = some k → o1 k ∧ k ≠ b) → ∀ {n : Nat} {xs : List Value}, w.ownsRow 0 9 1 x n xs → w'.ownsRow 0 9 1 x n xs := by
    intro x hx n xs ho
    exact ownsOfBlock ho fun g hg => hm.block g (ho.lt g hg).2 (ha g (ho.lt g hg).2 (hx g hg).1)
  refine ⟨rv, tv, gv, (hm.block b hb (ha b hb h.ownb)).trans h.blk, .inl ⟨hb, h.ownb⟩, fun k hk => .inr hk, fun k hk ho => ?_, h.low, h.ints.moves hm (fun k hk => (hn k hk).1), hk tv h.towns h.tos, hk gv h.gowns h.got, fun k hk => ?_, fun k hk => ?_, h.sep⟩
  · rcases ho with ho | ho
    · exact h.dis k hk ho.2
    · have := (hn k hk).2; have := hm.size; omega
  · exact ⟨.inl ⟨(h.tos.lt k hk).2, (h.towns k hk).1⟩, (h.towns k hk).2⟩
  · exact ⟨.inl ⟨(h.got.lt k hk).2, (h.gowns k hk).1⟩, (h.gowns k hk).2⟩
theorem Apart.keep2 {w w' : World} {o1 o2 : Nat → Prop} (h : Apart w o1 o2) (hz : w.heap.size ≤ w'.heap.size) : Apart w' (kept w w' o1) o2 := by
  intro k hk h1 h2
  rcases h1 with h1 | h1
  · exact h k h1.1 h1.2 h2
  · omega
theorem Apart.keep12 {w w' : World} {o1 o2 : Nat → Prop} (h : Apart w o1 o2) : Apart w' (kept w w' o1) (kept w w' o2) := by
  intro k hk h1 h2
  rcases h1 with h1 | h1
  · rcases h2 with h2 | h2
    · exact h k h1.1 h1.2 h2.2
    · omega
  · omega

/-- Three peers. -/
def Trio (no : Nat → Prop) (W0 : World) (b1 b2 b3 : Nat) (p1 p2 p3 : PeerS) (w : World) : Prop :=
  (∀ k, no k → k < W0.heap.size) ∧ Moves (fun k => ¬ no k) W0 w ∧ ∃ o1 o2 o3, Sits no b1 p1 o1 w ∧ Sits no b2 p2 o2 w ∧ Sits no b3 p3 o3 w ∧ Apart w o1 o2 ∧ Apart w o1 o3 ∧ Apart w o2 o3
theorem Trio.rot {no : Nat → Prop} {W0 w : World} {b1 b2 b3 : Nat} {p1 p2 p3 : PeerS} (h : Trio no W0 b1 b2 b3 p1 p2 p3 w) : Trio no W0 b2 b3 b1 p2 p3 p1 w := by
  obtain ⟨hn, hm, o1, o2, o3, h1, h2, h3, a12, a13, a23⟩ := h
  exact ⟨hn, hm, o2, o3, o1, h2, h3, h1, a23, a12.symm, a13.symm⟩
theorem Trio.size {no : Nat → Prop} {W0 w : World} {b1 b2 b3 : Nat} {p1 p2 p3 : PeerS} (h : Trio no W0 b1 b2 b3 p1 p2 p3 w) : W0.heap.size ≤ w.heap.size := h.2.1.size
theorem Sits.below {no o : Nat → Prop} {b : Nat} {p : PeerS} {w w' : World} (h : Sits no b p o w) (hb : Below w.heap.size w w') : Sits no b p o w' := by
  obtain ⟨rv, tv, gv, h⟩ := h
  exact ⟨rv, tv, gv, h.below hb⟩
theorem Sits.fut {no o : Nat → Prop} {b : Nat} {p : PeerS} {w : World} (h : Sits no b p o w) : ∀ k, w.heap.size ≤ k → o k := by
  obtain ⟨rv, tv, gv, h⟩ := h
  exact h.fut
theorem Sits.dis {no o : Nat → Prop} {b : Nat} {p : PeerS} {w : World} (h : Sits no b p o w) : ∀ k, no k → ¬ o k := by
  obtain ⟨rv, tv, gv, h⟩ := h
  exact h.dis
/-- New blocks, of nobody. -/
theorem Trio.below {no : Nat → Prop} {W0 w w' : World} {b1 b2 b3 : Nat} {p1 p2 p3 : PeerS} (h : Trio no W0 b1 b2 b3 p1 p2 p3 w) (hb : Below w.heap.size w w') : Trio no W0 b1 b2 b3 p1 p2 p3 w' := by
  obtain ⟨hn, hm, o1, o2, o3, h1, h2, h3, a12, a13, a23⟩ := h
  have hm2 : Moves (fun _ => False) w w' := ⟨hb.os, hb.tape, hb.output, hb.size, fun k hk _ => hb.block k hk⟩
  have hz := hm.size
  have hq : ∀ k, no k → ¬ False ∧ k < w.heap.size := fun k hk => ⟨id, by have := hn k hk; omega⟩
  exact ⟨hn, hm.trans (Moves.ofBelow hb), _, _, _, h1.aside hm2 (fun _ _ _ => id) hq, h2.aside hm2 (fun _ _ _ => id) hq, h3.aside hm2 (fun _ _ _ => id) hq, a12.keep12, a13.keep12, a23.keep12⟩
/-- The first one moves. -/
theorem Trio.move {no : Nat → Prop} {W0 w : World} {b1 b2 b3 : Nat} {p1 p2 p3 : PeerS} (h : Trio no W0 b1 b2 b3 p1 p2 p3 w) : ∃ own rv tv gv, PeerRow own no b1 p1 rv tv gv w ∧ ∀ w' q rv' tv' gv', PeerRow own no b1 q rv' tv' gv' w' → Moves own w w' → Trio no W0 b1 b2 b3 q p2 p3 w' := by
  obtain ⟨hn, hm, o1, o2, o3, ⟨rv, tv, gv, h1⟩, h2, h3, a12, a13, a23⟩ := h
  refine ⟨o1, rv, tv, gv, h1, fun w' q rv' tv' gv' hq hmv => ?_⟩
  have hz := hm.size
  have hno : ∀ k, no k → ¬ o1 k ∧ k < w.heap.size := fun k hk => ⟨h1.dis k hk, by have := hn k hk; omega⟩
  refine ⟨hn, hm.trans (hmv.mono fun k _ ho hnk => h1.dis k hnk ho), o1, _, _, ⟨_, _, _, hq⟩, h2.aside hmv a12.symm hno, h3.aside hmv a13.symm hno, (a12.symm.keep2 hmv.size).symm, (a13.symm.keep2 hmv.size).symm, a23.keep12⟩
theorem Trio.under {no : Nat → Prop} {W0 w : World} {b1 b2 b3 : Nat} {p1 p2 p3 : PeerS} {B : Nat} (h : Trio no W0 b1 b2 b3 p1 p2 p3 w) (hB : ∀ k, k < B → no k) : Below B W0 w :=
  ⟨h.2.1.os, h.2.1.tape, h.2.1.output, h.2.1.size, fun k hk => h.2.1.block k (h.1 k (hB k hk)) (fun hn => hn (hB k hk))⟩
theorem PeerRow.recast {own no no' : Nat → Prop} {b : Nat} {lm : Bool} {l : List Int} {rv : Value} {w : World} (h : PeerRow own no b (PeerS.new lm l) rv (.slice none 0 0) (.slice none 0 0) w) (h1 : ∀ k, no k → no' k) (h2 : ∀ k, no' k → k < w.heap.size ∧ k ≠ b) :
    PeerRow (fun k => k = b ∨ w.heap.size ≤ k) no' b (PeerS.new lm l) rv (.slice none 0 0) (.slice none 0 0) w := by
  refine ⟨h.blk, .inl rfl, fun k hk => .inr hk, fun k hk ho => ?_, fun k hk => h1 k (h.low k hk), ?_, h.tos, h.got, fun k hk => (by cases hk), fun k hk => (by cases hk), fun k hk => (by cases hk)⟩
  · have := h2 k hk
    rcases ho with ho | ho
    · exact this.2 ho
    · omega
  · rcases h.ints with h3 | ⟨r, o, c, hv, hc, hr, hx⟩
    · exact .inl h3
    · exact .inr ⟨r, o, c, hv, hc, h1 r hr, hx⟩
theorem Trio.start {lm : Bool} {l : List Int} {w0 w1 w2 w3 : World} {b1 b2 b3 : Nat} {rv1 rv2 rv3 : Value}
    (h1 : PeerRow (fun k => b1 ≤ k) (fun k => k < 9 ∨ (w0.heap.size ≤ k ∧ k < b1)) b1 (PeerS.new lm l) rv1 (.slice none 0 0) (.slice none 0 0) w1) (z0 : 9 ≤ w0.heap.size) (l1 : w0.heap.size ≤ b1) (z1 : w1.heap.size = b1 + 1) (hB12 : Below w1.heap.size w1 w2)
    (h2 : PeerRow (fun k => b2 ≤ k) (fun k => k < 9 ∨ (w1.heap.size ≤ k ∧ k < b2)) b2 (PeerS.new lm l) rv2 (.slice none 0 0) (.slice none 0 0) w2) (l2 : w1.heap.size ≤ b2) (z2 : w2.heap.size = b2 + 1) (hB23 : Below w2.heap.size w2 w3)
    (h3 : PeerRow (fun k => b3 ≤ k) (fun k => k < 9 ∨ (w2.heap.size ≤ k ∧ k < b3)) b3 (PeerS.new lm l) rv3 (.slice none 0 0) (.slice none 0 0) w3) (l3 : w2.heap.size ≤ b3) (z3 : w3.heap.size = b3 + 1) :
    Trio (fun k => k < w3.heap.size ∧ k ≠ b1 ∧ k ≠ b2 ∧ k ≠ b3) w3 b1 b2 b3 (PeerS.new lm l) (PeerS.new lm l) (PeerS.new lm l) w3 := by
  have r1 := ((h1.below hB12).below hB23).recast (no' := fun k => k < w3.heap.size ∧ k ≠ b1 ∧ k ≠ b2 ∧ k ≠ b3) (fun k hk => by rcases hk with hk | hk <;> (refine ⟨?_, ?_, ?_, ?_⟩ <;> omega)) (fun k hk => ⟨hk.1, hk.2.1⟩)
  have r2 := (h2.below hB23).recast (no' := fun k => k < w3.heap.size ∧ k ≠ b1 ∧ k ≠ b2 ∧ k ≠ b3) (fun k hk => by rcases hk with hk | hk <;> (refine ⟨?_, ?_, ?_, ?_⟩ <;> omega)) (fun k hk => ⟨hk.1, hk.2.2.1⟩)
  have r3 := h3.recast (no' := fun k => k < w3.heap.size ∧ k ≠ b1 ∧ k ≠ b2 ∧ k ≠ b3) (fun k hk => by rcases hk with hk | hk <;> (refine ⟨?_, ?_, ?_, ?_⟩ <;> omega)) (fun k hk => ⟨hk.1, hk.2.2.2⟩)
  refine ⟨fun k hk => hk.1, Moves.refl _ _, _, _, _, ⟨_, _, _, r1⟩, ⟨_, _, _, r2⟩, ⟨_, _, _, r3⟩, ?_, ?_, ?_⟩
  all_goals
    intro k hk ha hb
    omega

theorem Trio.swap {no : Nat → Prop} {W0 w : World} {b1 b2 b3 : Nat} {p1 p2 p3 : PeerS} (h : Trio no W0 b1 b2 b3 p1 p2 p3 w) : Trio no W0 b2 b1 b3 p2 p1 p3 w := by
  obtain ⟨hn, hm, o1, o2, o3, h1, h2, h3, a12, a13, a23⟩ := h
  exact ⟨hn, hm, o2, o1, o3, h2, h1, h3, a12.symm, a23, a13⟩

/-! ### A peer that hears piece by piece stays small -/
theorem Small.mono {N M : Nat} {p : PeerS} (h : Small N p) (hl : N ≤ M) : Small M p := ⟨by have := h.got; omega, by have := h.out; omega, by have := h.text; omega⟩
theorem small_lines : ∀ (ls : List (List UInt8 × Bool)) (N : Nat) (p : PeerS), Small N p → (∀ x ∈ ls, x.1.length ≤ 510) → Small (N + ls.length) (p.lines ls)
  | [], N, p, h, _ => h
  | x :: r, N, p, h, hx => by
    have := small_lines r (N + 1) (p.line x) (small_line h x (hx x (by simp))) (fun y hy => hx y (by simp [hy]))
    show Small (N + (r.length + 1)) ((p.line x).lines r)
    rw [show N + (r.length + 1) = N + 1 + r.length by omega]
    exact this
theorem small_hear {N : Nat} {p : PeerS} (h : Small N p) (l : List UInt8) (hc : Clean p.f.1) : Small (N + l.length) (p.hear l) := by
  have e : (putL p.f l).2 = (scan p.f.2 p.f.1 l).2 := by rw [putL_clean hc]
  obtain ⟨h1, h2⟩ := scan_lens l p.f.1 p.f.2
  have h0 : Small N ({ p with f := (putL p.f l).1, out := [] } : PeerS) := ⟨h.got, by have := h.out; show 0 + 40 * p.tos.length ≤ _; omega, h.text⟩
  have := small_lines (putL p.f l).2 N _ h0 (by rw [e]; exact h1)
  exact this.mono (by rw [e]; omega)
theorem hear_f_len (p : PeerS) (l : List UInt8) : (p.hear l).f.1.length ≤ 511 := by
  have e1 : (p.hear l).f = (putL p.f l).1 := by rw [hear_eq]; rfl
  rw [e1]
  exact cutF_len _
/-- What holds of a peer that heard n bytes. -/
structure Sound (N : Nat) (p : PeerS) : Prop where
  small : Small N p
  clean : Clean p.f.1
  len : p.f.1.length ≤ 511
theorem sound_new (lm : Bool) (l : List Int) : Sound 0 (PeerS.new lm l) := ⟨small_new lm l, clean_nil, Nat.zero_le _⟩
theorem Sound.hear {N : Nat} {p : PeerS} (h : Sound N p) (l : List UInt8) : Sound (N + l.length) (p.hear l) := ⟨small_hear h.small l h.clean, hear_clean p l h.clean, hear_f_len p l⟩

/-! ### What the three of them say and got -/
theorem hears_same (lm : Bool) (l : List Int) (ls : List (List UInt8)) : (PeerS.hears ls (PeerS.new lm l)).2 = ((PeerS.new lm l).hear ls.flatten).out ∧ (PeerS.hears ls (PeerS.new lm l)).1.got = ((PeerS.new lm l).hear ls.flatten).got := by
  rw [hears_whole ls (PeerS.new lm l) clean_nil rfl]
  exact ⟨rfl, rfl⟩
theorem singles_flat : ∀ l : List UInt8, (l.map fun c => [c]).flatten = l
  | [] => rfl
  | c :: r => by simp [singles_flat r]

/-! ### Three peers beside what was there before them -/
theorem row_cap {w : World} {B e size n c : Nat} {ao : Option Addr} {xs : List Value} (h : w.ownsRow B e size (.slice ao n c) n xs) : n ≤ c := by
  rcases h.2 with ⟨h1, h2⟩ | ⟨g, cap, cur, hv, hb, hg, hnc, _⟩
  · injection h1; omega
  · injection hv with _ _ hv; omega
def TrioAt (wc : World) (b1 b2 b3 : Nat) (p1 p2 p3 : PeerS) (w : World) : Prop :=
  ∃ no W3, (∀ k, k < wc.heap.size → no k) ∧ Below wc.heap.size wc W3 ∧ Trio no W3 b1 b2 b3 p1 p2 p3 w
section
variable {wc w w' : World} {b1 b2 b3 : Nat} {p1 p2 p3 : PeerS}
theorem TrioAt.swap (h : TrioAt wc b1 b2 b3 p1 p2 p3 w) : TrioAt wc b2 b1 b3 p2 p1 p3 w := by
  obtain ⟨no, W3, h1, h2, h3⟩ := h
  exact ⟨no, W3, h1, h2, h3.swap⟩
theorem TrioAt.rot (h : TrioAt wc b1 b2 b3 p1 p2 p3 w) : TrioAt wc b2 b3 b1 p2 p3 p1 w := by
  obtain ⟨no, W3, h1, h2, h3⟩ := h
  exact ⟨no, W3, h1, h2, h3.rot⟩
theorem TrioAt.below (h : TrioAt wc b1 b2 b3 p1 p2 p3 w) (hb : Below w.heap.size w w') : TrioAt wc b1 b2 b3 p1 p2 p3 w' := by
  obtain ⟨no, W3, h1, h2, h3⟩ := h
  exact ⟨no, W3, h1, h2, h3.below hb⟩
theorem TrioAt.under (h : TrioAt wc b1 b2 b3 p1 p2 p3 w) : Below wc.heap.size wc w := by
  obtain ⟨no, W3, h1, h2, h3⟩ := h
  exact h2.trans (h3.under h1)
theorem TrioAt.hear (h : TrioAt wc b1 b2 b3 p1 p2 p3 w) (hE : Env wc) {N : Nat} (hs : Sound N p1) (hN : N ≤ 536870912) {v : Value} {l : List UInt8} (hv : IsBytes w v l) (hl : l.length ≤ 268435456) :
    Calls Tryz.prog 25 #[.pointer (some ⟨b1, 0, none⟩), v] w fun e w' => e = .returned (.string (str (p1.hear l).out)) ∧ TrioAt wc b1 b2 b3 (p1.hear l) p2 p3 w' := by
  have hu := h.under
  obtain ⟨no, W3, h1, h2, h3⟩ := h
  obtain ⟨own, rv, tv, gv, hr, hm⟩ := h3.move
  refine (Hear_c own no b1 p1 rv tv gv v l N w hr (hE.below hu) hv hs.small (by omega) hl hs.len).mono ?_
  rintro e w' ⟨rfl, rv', tv', gv', hr', hmv⟩
  exact ⟨rfl, no, W3, h1, h2, hm w' _ rv' tv' gv' hr' hmv⟩
theorem TrioAt.got (h : TrioAt wc b1 b2 b3 p1 p2 p3 w) {N : Nat} (hs : Sound N p1) (hN : N ≤ 536870912) :
    Calls Tryz.prog 28 #[.pointer (some ⟨b1, 0, none⟩)] w fun e w' => ∃ v', e = .returned v' ∧ w'.ownsRow w.heap.size 9 1 v' p1.got.length (strCells p1.got) ∧ Below w.heap.size w w' := by
  obtain ⟨no, W3, h1, h2, h3⟩ := h
  obtain ⟨own, rv, tv, gv, hr, hm⟩ := h3.move
  exact Got_c own no b1 p1 rv tv gv w hr (by have := hs.small.got; omega)
end

end Go.Proofs.YthbofddadgmghaaGreatDoor
