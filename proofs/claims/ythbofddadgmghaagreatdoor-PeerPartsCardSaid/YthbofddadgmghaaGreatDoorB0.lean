/- A peer in memory: its cells, its slices, and what its calls leave alone. -/
import Derived.Test.YthbofddadgmghaaGreatDoorA9
set_option linter.unusedVariables false
set_option linter.unusedSimpArgs false
namespace Go.Proofs.YthbofddadgmghaaGreatDoor
open Go.RowKit Go.Shelf

structure PeerS where
  lmtp : Bool
  refuse : List Int
  f : List UInt8 × Bool
  path : List UInt8
  tos : List (List UInt8)
  text : List UInt8
  inn : Bool
  got : List (List UInt8)
  out : List UInt8

abbrev rowP (p : PeerS) (rv tv gv : Value) : Array Value :=
  #[.bool p.lmtp, rv, .string (str p.f.1), .bool p.f.2, .string (str p.path), tv, .string (str p.text), .bool p.inn, gv, .string (str p.out)]

/-- A world in which nothing but 'own' blocks (and new ones) is other. -/
structure Moves (own : Nat → Prop) (w w' : World) : Prop where
  os : w'.os = w.os
  tape : w'.tape = w.tape
  output : w'.output = w.output
  size : w.heap.size ≤ w'.heap.size
  block : ∀ k, k < w.heap.size → ¬ own k → w'.heap[k]? = w.heap[k]?
theorem Moves.refl (own : Nat → Prop) (w : World) : Moves own w w := ⟨rfl, rfl, rfl, Nat.le_refl _, fun _ _ _ => rfl⟩
theorem Moves.trans {own : Nat → Prop} {a b c : World} (h : Moves own a b) (k : Moves own b c) : Moves own a c :=
  ⟨k.os.trans h.os, k.tape.trans h.tape, k.output.trans h.output, Nat.le_trans h.size k.size, fun i hi ho => (k.block i (Nat.lt_of_lt_of_le hi h.size) ho).trans (h.block i hi ho)⟩
theorem Moves.ofBelow {own : Nat → Prop} {a b : World} (h : Below a.heap.size a b) : Moves own a b := ⟨h.os, h.tape, h.output, h.size, fun i hi _ => h.block i hi⟩
theorem Moves.setCell {own : Nat → Prop} {a b : World} (h : Moves own a b) {p : Addr} (hp : own p.block) (v : Value) : Moves own a (b.setCell p v) :=
  ⟨h.os, h.tape, h.output, by simp [World.setCell]; exact h.size, fun i hi ho => (Below.heap_setCell b p v i (fun e => ho (by rw [e]; exact hp))).trans (h.block i hi ho)⟩
theorem Moves.grown {own : Nat → Prop} {a b c : World} (h : Moves own a b) {row : Option Nat} (hg : b.grownBy c row) (hr : ∀ k, row = some k → own k) : Moves own a c :=
  ⟨hg.os.trans h.os, hg.tape.trans h.tape, hg.output.trans h.output, Nat.le_trans h.size hg.size, fun i hi ho => (hg.block i (Nat.lt_of_lt_of_le hi h.size) (fun e => ho (hr i e.symm))).trans (h.block i hi ho)⟩
theorem Moves.mono {own own' : Nat → Prop} {a b : World} (h : Moves own a b) (hs : ∀ k, k < a.heap.size → own k → own' k) : Moves own' a b :=
  ⟨h.os, h.tape, h.output, h.size, fun i hi ho => h.block i hi (fun k => ho (hs i hi k))⟩
theorem Moves.cell {own : Nat → Prop} {a b : World} (h : Moves own a b) {p : Addr} {v : Value} (hc : a.cell? p = some v) (ho : ¬ own p.block) : b.cell? p = some v :=
  (World.cell?_of_block (h.block p.block (World.block_lt_of_cell? a p hc) ho)).trans hc

abbrev strCells (l : List (List UInt8)) : List Value := l.map fun x => .string (str x)
def IntsAt (no : Nat → Prop) (rv : Value) (l : List Int) (w : World) : Prop := (rv = .slice none 0 0 ∧ l = []) ∨ ∃ r o c, rv = .slice (some ⟨r, o, none⟩) l.length c ∧ l.length ≤ c ∧ no r ∧ ∀ j (h : j < l.length), w.cell? ⟨r, o + j, none⟩ = some (.int .i64 l[j])
theorem IntsAt.moves {own no : Nat → Prop} {rv : Value} {l : List Int} {w w' : World} (h : IntsAt no rv l w) (hm : Moves own w w') (hd : ∀ k, no k → ¬ own k) : IntsAt no rv l w' := by
  rcases h with h | ⟨r, o, c, hv, hc, hr, hx⟩
  · exact .inl h
  · exact .inr ⟨r, o, c, hv, hc, hr, fun j hj => hm.cell (hx j hj) (hd _ hr)⟩

structure PeerRow (own no : Nat → Prop) (b : Nat) (p : PeerS) (rv tv gv : Value) (w : World) : Prop where
  blk : w.heap[b]? = some (.cells (rowP p rv tv gv) 130 (0, 0))
  ownb : own b
  fut : ∀ k, w.heap.size ≤ k → own k
  dis : ∀ k, no k → ¬ own k
  low : ∀ k, k < 9 → no k
  ints : IntsAt no rv p.refuse w
  tos : w.ownsRow 0 9 1 tv p.tos.length (strCells p.tos)
  got : w.ownsRow 0 9 1 gv p.got.length (strCells p.got)
  towns : ∀ k, tv.ownBlock = some k → own k ∧ k ≠ b
  gowns : ∀ k, gv.ownBlock = some k → own k ∧ k ≠ b
  sep : ∀ k, tv.ownBlock = some k → gv.ownBlock ≠ some k

section
variable {own no : Nat → Prop} {b : Nat} {p : PeerS} {rv tv gv : Value} {w w' : World}
theorem PeerRow.cool (h : PeerRow own no b p rv tv gv w) : ∀ k, k < 9 → ¬ own k := fun k hk => h.dis k (h.low k hk)
theorem PeerRow.lt (h : PeerRow own no b p rv tv gv w) : b < w.heap.size := (Array.getElem?_eq_some_iff.1 h.blk).1
theorem PeerRow.below (h : PeerRow own no b p rv tv gv w) (hb : Below w.heap.size w w') : PeerRow own no b p rv tv gv w' :=
  ⟨(hb.block b h.lt).trans h.blk, h.ownb, fun k hk => h.fut k (Nat.le_trans hb.size hk), h.dis, h.low, h.ints.moves (.ofBelow hb) h.dis, ownsBelow h.tos hb, ownsBelow h.got hb, h.towns, h.gowns, h.sep⟩
/-- The same peer, when the blocks that came between w and w' are no blocks of its own. -/
theorem PeerRow.hole (h : PeerRow own no b p rv tv gv w) (hb : Below w.heap.size w w') : PeerRow (fun k => own k ∧ ¬ (w.heap.size ≤ k ∧ k < w'.heap.size)) no b p rv tv gv w' := by
  have h2 := h.below hb
  have hlt := h.lt
  refine ⟨h2.blk, ⟨h.ownb, by omega⟩, fun k hk => ⟨h2.fut k hk, by omega⟩, fun k hk ho => h.dis k hk ho.1, h.low, h2.ints, h2.tos, h2.got, fun k hk => ?_, fun k hk => ?_, h.sep⟩
  · have := (h.tos.lt k hk).2
    exact ⟨⟨(h.towns k hk).1, by omega⟩, (h.towns k hk).2⟩
  · have := (h.got.lt k hk).2
    exact ⟨⟨(h.gowns k hk).1, by omega⟩, (h.gowns k hk).2⟩
theorem PeerRow.fill {own' : Nat → Prop} {q : PeerS} {rv' tv' gv' : Value} (h : PeerRow own no b p rv tv gv w) (h2 : PeerRow own' no b q rv' tv' gv' w') (hs : ∀ k, own' k → own k) (hz : w.heap.size ≤ w'.heap.size) : PeerRow own no b q rv' tv' gv' w' :=
  ⟨h2.blk, h.ownb, fun k hk => h.fut k (Nat.le_trans hz hk), h.dis, h.low, h2.ints, h2.tos, h2.got, fun k hk => ⟨hs k (h2.towns k hk).1, (h2.towns k hk).2⟩, fun k hk => ⟨hs k (h2.gowns k hk).1, (h2.gowns k hk).2⟩, h2.sep⟩
theorem PeerRow.cell (h : PeerRow own no b p rv tv gv w) (j : Nat) : w.cell? ⟨b, j, none⟩ = (rowP p rv tv gv)[j]? := by
  unfold World.cell?
  rw [h.blk]
  rfl
theorem PeerRow.cold (h : PeerRow own no b p rv tv gv w) (j : Nat) : w.frozen? ⟨b, j, none⟩ = false := frozen_of_row w b j _ _ h.blk
theorem Moves.env (hm : Moves own w w') (hlow : ∀ k, k < 9 → ¬ own k) (hE : Env w) : Env w' :=
  hE.upto (B := 9) (Nat.le_refl _) ⟨hm.os, hm.tape, hm.output, hm.size, fun k hk => hm.block k (Nat.lt_of_lt_of_le hk hE.size) (hlow k hk)⟩
theorem PeerRow.grownBy_store (h : PeerRow own no b p rv tv gv w) (j : Nat) (v : Value) : w.grownBy (w.setCell ⟨b, j, none⟩ v) (some b) :=
  ⟨rfl, rfl, rfl, by simp [World.setCell], fun k _ hk => Below.heap_setCell w _ v k (fun e => hk (by rw [e]))⟩
theorem PeerRow.keeps (h : PeerRow own no b p rv tv gv w) (j : Nat) (v : Value) {e size n : Nat} {x : Value} {xs : List Value} (hx : w.ownsRow 0 e size x n xs) (hk : ∀ k, x.ownBlock = some k → k ≠ b) : (w.setCell ⟨b, j, none⟩ v).ownsRow 0 e size x n xs :=
  hx.kept (h.grownBy_store j v) (by
    cases hb : x.ownBlock with
    | none => exact .inl rfl
    | some k => exact .inr fun e => hk k hb (by injection e))
/-- A store into a cell of the peer's own: what its slices are afterwards is to be shown. -/
theorem PeerRow.storeAny (h : PeerRow own no b p rv tv gv w) (j : Nat) (v : Value) (q : PeerS) (rv' tv' gv' : Value) (hq : (rowP p rv tv gv).setIfInBounds j v = rowP q rv' tv' gv') (h1 : IntsAt no rv' q.refuse w)
    (h2 : w.ownsRow 0 9 1 tv' q.tos.length (strCells q.tos)) (h3 : w.ownsRow 0 9 1 gv' q.got.length (strCells q.got)) (h4 : ∀ k, tv'.ownBlock = some k → own k ∧ k ≠ b) (h5 : ∀ k, gv'.ownBlock = some k → own k ∧ k ≠ b) (h6 : ∀ k, tv'.ownBlock = some k → gv'.ownBlock ≠ some k) :
    PeerRow own no b q rv' tv' gv' (w.setCell ⟨b, j, none⟩ v) := by
  have hm : Moves own w (w.setCell ⟨b, j, none⟩ v) := (Moves.refl own w).setCell (p := ⟨b, j, none⟩) h.ownb v
  refine ⟨?_, h.ownb, fun k hk => h.fut k (Nat.le_trans hm.size hk), h.dis, h.low, h1.moves hm h.dis, h.keeps j v h2 (fun k hk => (h4 k hk).2), h.keeps j v h3 (fun k hk => (h5 k hk).2), h4, h5, h6⟩
  rw [heap_setCell_same w b j _ _ v h.blk, hq]
/-- A store into a cell of the peer's own, which changes none of its slices. -/
theorem PeerRow.store (h : PeerRow own no b p rv tv gv w) (j : Nat) (v : Value) (q : PeerS) (hq : (rowP p rv tv gv).setIfInBounds j v = rowP q rv tv gv) (h1 : q.refuse = p.refuse) (h2 : q.tos = p.tos) (h3 : q.got = p.got) :
    PeerRow own no b q rv tv gv (w.setCell ⟨b, j, none⟩ v) :=
  h.storeAny j v q rv tv gv hq (h1 ▸ h.ints) (h2 ▸ h.tos) (h3 ▸ h.got) h.towns h.gowns h.sep
end

/-! say -/
def PeerS.say (p : PeerS) (n : Int) : PeerS := { p with out := p.out ++ saysL n }
theorem say_c (own no : Nat → Prop) (b : Nat) (p : PeerS) (rv tv gv : Value) (n : Int) (w : World) (h : PeerRow own no b p rv tv gv w) (hE : Env w) (h0 : 200 ≤ n) (h1 : n ≤ 599) (hl : p.out.length ≤ 1099511627776) :
    Calls Tryz.prog 138 #[.pointer (some ⟨b, 0, none⟩), .int .i64 n] w fun e w' => e = .returned (.tuple #[]) ∧ PeerRow own no b (p.say n) rv tv gv w' ∧ Moves own w w' := by
  have hsl := saysL_len h0 h1
  have hb := fun W hW => bytes_c n W hW h0 h1
  have hs1 : (str p.out).size = p.out.length := str_size _
  have hs2 : (str (saysL n)).size = (saysL n).length := str_size _
  have c9 : w.cell? ⟨b, 9, none⟩ = some (.string (str p.out)) := h.cell 9
  have f9 := h.cold 9
  have hsum : str p.out ++ str (saysL n) = str (p.say n).out := by rw [str_append]; rfl
  have HF : Hid (∀ W, Below w.heap.size w W → PeerRow own no b (p.say n) rv tv gv (W.setCell ⟨b, 9, none⟩ (.string (str (p.say n).out))) ∧ Moves own w (W.setCell ⟨b, 9, none⟩ (.string (str (p.say n).out)))) := by
    intro W hW
    exact ⟨(h.below hW).store 9 _ (p.say n) rfl rfl rfl rfl, (Moves.ofBelow hW).setCell (p := ⟨b, 9, none⟩) h.ownb _⟩
  rw [← hsum] at HF
  clear hsum h0 h1 h
  generalize saysL n = sl at *
  generalize p.out = ol at *
  go_enter Tryz.func138, Tryz.ntmps138
  go_region_with (go_at_call 77; refine (hb _ (hE.below (Below.refl _ _).drew)).mono ?_; rintro e w1 ⟨rfl, hB1⟩; have hB := (Below.refl w.heap.size w).drew.trans hB1; have d9 := cellsAt c9 hB; have g9 := hB.frozen (p := ⟨b, 9, none⟩) (World.block_lt_of_cell? w _ c9))
  all_goals
    go_end0
    exact ⟨rfl, HF.out _ hB⟩

/-! asked -/
def PeerS.code (p : PeerS) : Int := match p.refuse with
  | [] => 250
  | r :: _ => if 400 ≤ r ∧ r ≤ 599 then r else 250
def PeerS.ask (p : PeerS) : PeerS := { p with refuse := p.refuse.tail, out := p.out ++ saysL p.code }
theorem code_range (p : PeerS) : 200 ≤ p.code ∧ p.code ≤ 599 := by
  unfold PeerS.code
  split
  · decide
  · split <;> omega

theorem asked_c (own no : Nat → Prop) (b : Nat) (p : PeerS) (rv tv gv : Value) (w : World) (h : PeerRow own no b p rv tv gv w) (hE : Env w) (hl : p.out.length ≤ 1099511627776) :
    Calls Tryz.prog 204 #[.pointer (some ⟨b, 0, none⟩)] w fun e w' => e = .returned (.bool (decide (p.code = 250))) ∧ ∃ rv', PeerRow own no b p.ask rv' tv gv w' ∧ Moves own w w' := by
  have c1 : w.cell? ⟨b, 1, none⟩ = some rv := h.cell 1
  have f1 := h.cold 1
  obtain ⟨h0, h1⟩ := code_range p
  cases hr : p.refuse with
  | nil =>
    have hc : p.code = 250 := by unfold PeerS.code; rw [hr]
    have hask : p.ask = p.say 250 := by unfold PeerS.ask PeerS.say; rw [hc, hr]; cases p; simp_all
    rw [hask, hc]
    have hsay := fun W hW hEW => say_c own no b p rv tv gv 250 W hW hEW (by decide) (by decide) hl
    obtain ⟨ao, c, hrv⟩ : ∃ ao c, rv = .slice ao 0 c := by
      rcases h.ints with ⟨h, _⟩ | ⟨r, o, c, h, _⟩
      · exact ⟨_, _, h⟩
      · exact ⟨_, _, by rw [h, hr]; rfl⟩
    subst hrv
    have HP := Lib.hid h
    clear h hr hask hc h0 h1
    go_enter Tryz.func204, Tryz.ntmps204
    go_wp2_with fail
    refine (hsay _ HP.out hE).mono ?_
    rintro e w1 ⟨rfl, h2, hm⟩
    go_wp2
    go_ret
    exact ⟨rfl, _, h2, hm⟩
  | cons r rest =>
    obtain ⟨g, o, c, rfl, hc, hg, hx⟩ : ∃ g o c, rv = .slice (some ⟨g, o, none⟩) (rest.length + 1) c ∧ rest.length + 1 ≤ c ∧ no g ∧ ∀ j (h : j < (r :: rest).length), w.cell? ⟨g, o + j, none⟩ = some (.int .i64 (r :: rest)[j]) := by
      rcases h.ints with ⟨_, h⟩ | ⟨g, o, c, h, h2, h3, h4⟩
      · rw [hr] at h; simp at h
      · rw [hr] at h h2; exact ⟨g, o, c, h, h2, h3, by simpa [hr] using h4⟩
    have x0 : w.cell? ⟨g, o, none⟩ = some (.int .i64 r) := hx 0 (by simp)
    have HP := Lib.hid h
    have HX := Lib.hid hx
    have HR := Lib.hid hr
    have gp : decide ((0 : Int) < ((rest.length + 1 : Nat) : Int)) = true := decide_eq_true (by omega)
    have hnext : ∀ rv', (rv' = .slice (some ⟨g, o, none⟩) rest.length 0 ∧ c = 1 ∨ rv' = .slice (some ⟨g, o + 1, none⟩) rest.length (c - 1)) →
        PeerRow own no b { p with refuse := rest } rv' tv gv (w.setCell ⟨b, 1, none⟩ rv') ∧ Moves own w (w.setCell ⟨b, 1, none⟩ rv') := by
      intro rv' hv
      refine ⟨h.storeAny 1 rv' _ rv' tv gv rfl ?_ h.tos h.got h.towns h.gowns h.sep, (Moves.refl own w).setCell (p := ⟨b, 1, none⟩) h.ownb _⟩
      rcases hv with ⟨rfl, h1⟩ | rfl
      · obtain rfl : rest = [] := List.eq_nil_of_length_eq_zero (by omega)
        exact .inr ⟨g, o, 0, rfl, Nat.le_refl _, hg, fun j hj => absurd hj (by simp)⟩
      · refine .inr ⟨g, o + 1, c - 1, rfl, by show rest.length ≤ c - 1; omega, hg, fun j hj => ?_⟩
        have := hx (j + 1) (by simpa using hj)
        rw [show o + (j + 1) = o + 1 + j by omega] at this
        simpa using this
    have HN := Lib.hid hnext
    have hsay := fun (n : Int) (h0 : 200 ≤ n) (h1 : n ≤ 599) rv' W hW hEW => say_c own no b { p with refuse := rest } rv' tv gv n W hW hEW h0 h1 hl
    have hask : ∀ n, p.code = n → p.ask = ({ p with refuse := rest } : PeerS).say n := by rintro n rfl; unfold PeerS.ask PeerS.say; rw [HR.out]; rfl
    have hcode : p.code = if 400 ≤ r ∧ r ≤ 599 then r else 250 := by unfold PeerS.code; rw [HR.out]
    have hlow := h.cool
    clear h hx hr hnext h0 h1
    by_cases hin : 400 ≤ r ∧ r ≤ 599
    · rw [if_pos hin] at hcode
      have HC := Lib.hid hcode
      have HA := Lib.hid hask
      have g1 : decide (400 ≤ r) = true := decide_eq_true hin.1
      have g2 : decide (r ≤ 599) = true := decide_eq_true hin.2
      have g3 : (r == 250) = false := by rw [beq_eq_false_iff_ne]; omega
      have hs := hsay r (by omega) (by omega)
      have HL := Lib.hid hlow
      clear hcode hask hsay hlow
      go_enter Tryz.func204, Tryz.ntmps204
      go_wp2_with fail
      all_goals
        first
          | (obtain ⟨n1, n2⟩ := HN.out _ (.inl ⟨rfl, by assumption⟩); refine (hs _ _ n1 (n2.env HL.out hE)).mono ?_)
          | (obtain ⟨n1, n2⟩ := HN.out _ (.inr rfl); refine (hs _ _ n1 (n2.env HL.out hE)).mono ?_)
        rintro e w1 ⟨rfl, h2, hm⟩
        go_wp2
        go_ret
        exact ⟨ret_bool (by rw [HC.out]; exact (decide_eq_false (p := r = 250) (by omega)).symm), _, (HA.out _ HC.out) ▸ h2, n2.trans hm⟩
    · rw [if_neg hin] at hcode
      have HC := Lib.hid hcode
      have HA := Lib.hid hask
      have hs := hsay 250 (by decide) (by decide)
      have HL := Lib.hid hlow
      clear hcode hask hsay hlow
      have fin : ∀ rv', (rv' = .slice (some ⟨g, o, none⟩) rest.length 0 ∧ c = 1 ∨ rv' = .slice (some ⟨g, o + 1, none⟩) rest.length (c - 1)) →
          Calls Tryz.prog 138 #[.pointer (some ⟨b, 0, none⟩), .int .i64 250] (w.setCell ⟨b, 1, none⟩ rv') fun e w' => e = .returned (.tuple #[]) ∧ PeerRow own no b p.ask rv' tv gv w' ∧ Moves own w w' := by
        intro rv' hv
        obtain ⟨n1, n2⟩ := HN.out _ hv
        refine (hs _ _ n1 (n2.env HL.out hE)).mono ?_
        rintro e w1 ⟨rfl, h2, hm⟩
        exact ⟨rfl, (HA.out _ HC.out) ▸ h2, n2.trans hm⟩
      have FIN := Lib.hid fin
      clear fin hs HN HA
      have hd : decide (p.code = 250) = true := decide_eq_true HC.out
      have HD := Lib.hid hd
      clear hd
      by_cases ha : 400 ≤ r
      · have g1 : decide (400 ≤ r) = true := decide_eq_true ha
        have g2 : decide (r ≤ 599) = false := decide_eq_false (by omega)
        clear hin ha
        go_enter Tryz.func204, Tryz.ntmps204
        go_wp2_with fail
        all_goals
          first
            | refine (FIN.out _ (.inl ⟨rfl, by assumption⟩)).mono ?_
            | refine (FIN.out _ (.inr rfl)).mono ?_
          rintro e w1 ⟨rfl, h2, hm⟩
          go_wp2
          go_ret
          exact ⟨ret_bool (by rw [HD.out]), _, h2, hm⟩
      · have g1 : decide (400 ≤ r) = false := decide_eq_false ha
        clear hin ha
        go_enter Tryz.func204, Tryz.ntmps204
        go_wp2_with fail
        all_goals
          first
            | refine (FIN.out _ (.inl ⟨rfl, by assumption⟩)).mono ?_
            | refine (FIN.out _ (.inr rfl)).mono ?_
          rintro e w1 ⟨rfl, h2, hm⟩
          go_wp2
          go_ret
          exact ⟨ret_bool (by rw [HD.out]), _, h2, hm⟩

/-! anew -/
def PeerS.anew (p : PeerS) : PeerS := { p with path := [], tos := [], text := [], inn := false }
theorem owns_nil {w : World} : w.ownsRow 0 9 1 (.slice none 0 0) 0 (strCells []) := World.ownsRow_nil _ _ _ _
theorem anew_c (own no : Nat → Prop) (b : Nat) (p : PeerS) (rv tv gv : Value) (w : World) (h : PeerRow own no b p rv tv gv w) :
    Calls Tryz.prog 206 #[.pointer (some ⟨b, 0, none⟩)] w fun e w' => e = .returned (.tuple #[]) ∧ PeerRow own no b p.anew rv (.slice none 0 0) gv w' ∧ Moves own w w' := by
  have n1 := h.store 4 (.string (str [])) { p with path := [] } rfl rfl rfl rfl
  have n2 := n1.storeAny 5 (.slice none 0 0) { p with path := [], tos := [] } rv (.slice none 0 0) gv rfl n1.ints owns_nil n1.got (by intro k hk; cases hk) n1.gowns (by intro k hk; cases hk)
  have n3 := n2.store 6 (.string (str [])) { p with path := [], tos := [], text := [] } rfl rfl rfl rfl
  have n4 := n3.store 7 (.bool false) p.anew rfl rfl rfl rfl
  have m := ((((Moves.refl own w).setCell (p := ⟨b, 4, none⟩) h.ownb (.string (str []))).setCell (p := ⟨b, 5, none⟩) h.ownb (.slice none 0 0)).setCell (p := ⟨b, 6, none⟩) h.ownb (.string (str []))).setCell (p := ⟨b, 7, none⟩) h.ownb (.bool false)
  have c1 := h.cell 4
  have c2 := n1.cell 5
  have c3 := n2.cell 6
  have c4 := n3.cell 7
  have f1 := h.cold 4
  have f2 := n1.cold 5
  have f3 := n2.cold 6
  have f4 := n3.cold 7
  have HF := Lib.hid (And.intro n4 m)
  clear n1 n2 n3 n4 m h
  simp only [List.getElem?_toArray, List.getElem?_cons_succ, List.getElem?_cons_zero] at c1 c2 c3 c4
  go_enter Tryz.func206, Tryz.ntmps206
  go_wp2
  go_end0
  exact ⟨rfl, HF.out⟩

end Go.Proofs.YthbofddadgmghaaGreatDoor
