/- Plain: hearing is the same however the bytes are parted. -/
import Derived.Test.YthbofddadgmghaaGreatDoorB7
set_option linter.unusedVariables false
set_option linter.unusedSimpArgs false
namespace Go.Proofs.YthbofddadgmghaaGreatDoor
open Go.RowKit Go.Shelf

/-! ### The byte automaton -/
theorem scan_append : ∀ (l m acc : List UInt8) (k : Bool), scan k acc (l ++ m) = ((scan (scan k acc l).1.2 (scan k acc l).1.1 m).1, (scan k acc l).2 ++ (scan (scan k acc l).1.2 (scan k acc l).1.1 m).2)
  | [], m, acc, k => by simp [scan]
  | c :: r, m, acc, k => by
    rw [List.cons_append, scan_cons, scan_cons]
    split
    · rw [scan_append r m [] false]
      simp
    · exact scan_append r m (acc ++ [c]) k
/-- Nothing in it ends a line. -/
def Clean (acc : List UInt8) : Prop := ∀ k, scan k [] acc = ((acc, k), [])
theorem clean_nil : Clean [] := fun k => by simp [scan]
theorem clean_scan : ∀ (l acc : List UInt8) (k : Bool), Clean acc → Clean (scan k acc l).1.1
  | [], acc, k, h => by simpa [scan] using h
  | c :: r, acc, k, h => by
    rw [scan_cons]
    split
    · exact clean_scan r [] false clean_nil
    · rename_i hc
      refine clean_scan r (acc ++ [c]) k fun j => ?_
      rw [scan_append, h j]
      simp only [scan_cons, List.nil_append]
      rw [if_neg hc]
      simp [scan]
theorem ends13 (l : List UInt8) : suffB [13] l = decide (l.getLast? = some 13) := by
  unfold suffB Lib.hasSuffix
  rw [Bool.eq_iff_iff]
  simp only [List.isSuffixOf_iff_suffix, decide_eq_true_eq]
  constructor
  · rintro ⟨q, rfl⟩
    simp
  · intro h
    obtain ⟨q, hq⟩ := List.getLast?_eq_some_iff.1 h
    exact ⟨q, hq.symm⟩
theorem clean_cut {f : List UInt8 × Bool} (h : Clean f.1) : Clean (cutF f).1 := by
  unfold cutF
  split
  · exact h
  · simp only
    split
    · exact fun k => by simp [scan]
    · exact clean_nil
/-- g is what is left of f when it is cut. -/
def CutOf (f g : List UInt8 × Bool) : Prop := f = g ∨ (g.2 = true ∧ (f.2 = true ∨ 512 ≤ f.1.length) ∧ (f.1.getLast? = some 13 ↔ g.1.getLast? = some 13))
theorem cutOf_cut (f : List UInt8 × Bool) : CutOf f (cutF f) := by
  unfold cutF
  split
  · exact .inl rfl
  · rename_i h
    refine .inr ⟨rfl, ?_, ?_⟩
    · cases hf : f.2
      · right
        simp [hf] at h
        exact h
      · exact .inl rfl
    · rw [ends13]
      by_cases hl : f.1.getLast? = some 13
      · simp [hl]
      · simp [hl]
theorem CutOf.same {f g : List UInt8 × Bool} (h : CutOf f g) : cutF f = cutF g := by
  rcases h with rfl | ⟨h1, h2, h3⟩
  · rfl
  · have ef : cutF f = (if suffB [13] f.1 then [13] else [], true) := by
      unfold cutF
      rw [if_neg]
      rintro ⟨a, b⟩
      rcases h2 with h2 | h2
      · rw [a] at h2; cases h2
      · omega
    have eg : cutF g = (if suffB [13] g.1 then [13] else [], true) := by
      unfold cutF
      rw [if_neg]
      rintro ⟨a, b⟩
      rw [h1] at a; cases a
    rw [ef, eg, ends13, ends13]
    by_cases hl : f.1.getLast? = some 13
    · simp [hl, h3.1 hl]
    · have : ¬ g.1.getLast? = some 13 := fun h => hl (h3.2 h)
      simp [hl, this]
theorem CutOf.scan : ∀ (l : List UInt8) {f g : List UInt8 × Bool}, CutOf f g → (scan f.2 f.1 l).2 = (scan g.2 g.1 l).2 ∧ CutOf (scan f.2 f.1 l).1 (scan g.2 g.1 l).1
  | [], f, g, h => by simpa [Go.Proofs.YthbofddadgmghaaGreatDoor.scan] using h
  | c :: r, f, g, h => by
    rcases h with rfl | ⟨h1, h2, h3⟩
    · exact ⟨rfl, .inl rfl⟩
    · rw [scan_cons, scan_cons]
      by_cases hc : c = 10 ∧ f.1.getLast? = some 13
      · rw [if_pos hc, if_pos ⟨hc.1, h3.1 hc.2⟩]
        refine ⟨?_, .inl rfl⟩
        have e1 : lineOf f.1.dropLast f.2 = ([], true) := by
          unfold lineOf
          rw [if_pos]
          rcases h2 with h2 | h2
          · exact .inl h2
          · right; rw [List.length_dropLast]; omega
        have e2 : lineOf g.1.dropLast g.2 = ([], true) := by
          unfold lineOf
          rw [if_pos (.inl h1)]
        simp only [e1, e2]
      · rw [if_neg hc, if_neg (fun h => hc ⟨h.1, h3.2 h.2⟩)]
        refine CutOf.scan r (f := (f.1 ++ [c], f.2)) (g := (g.1 ++ [c], g.2)) (.inr ⟨h1, ?_, by simp⟩)
        rcases h2 with h2 | h2
        · exact .inl h2
        · right; simp; omega
theorem putL_clean {f : List UInt8 × Bool} (h : Clean f.1) (l : List UInt8) : putL f l = (cutF (scan f.2 f.1 l).1, (scan f.2 f.1 l).2) := by
  unfold putL
  rw [scan_append, h f.2]
  simp
theorem putL_parts {f : List UInt8 × Bool} (h : Clean f.1) (l m : List UInt8) : putL f (l ++ m) = ((putL (putL f l).1 m).1, (putL f l).2 ++ (putL (putL f l).1 m).2) := by
  have h1 : Clean (scan f.2 f.1 l).1.1 := clean_scan l f.1 f.2 h
  rw [putL_clean h, putL_clean h l, scan_append]
  rw [putL_clean (clean_cut h1)]
  obtain ⟨e1, e2⟩ := (cutOf_cut (scan f.2 f.1 l).1).scan m
  simp only [e1, e2.same]
theorem putL_stays {f : List UInt8 × Bool} (h : Clean f.1) (l : List UInt8) : Clean (putL f l).1.1 := by
  rw [putL_clean h]
  exact clean_cut (clean_scan l f.1 f.2 h)

/-! ### What was said before is only carried along -/
def PeerS.pre (p : PeerS) (o : List UInt8) : PeerS := { p with out := o ++ p.out }
theorem pre_say (p : PeerS) (o : List UInt8) (n : Int) : (p.pre o).say n = (p.say n).pre o := by simp [PeerS.pre, PeerS.say]
theorem pre_code (p : PeerS) (o : List UInt8) : (p.pre o).code = p.code := rfl
theorem pre_ask (p : PeerS) (o : List UInt8) : (p.pre o).ask = p.ask.pre o := by simp [PeerS.pre, PeerS.ask, PeerS.code]
theorem pre_one (p : PeerS) (o : List UInt8) (ok : Bool) (x : List UInt8) : (p.pre o).one ok x = (p.one ok x).pre o := by
  unfold PeerS.one
  rw [pre_code, pre_ask]
  cases ok
  · simp only [Bool.false_eq_true, if_false]
    show (if p.lmtp = true then _ else _) = _
    split
    · split
      · rfl
      · rfl
    · rfl
  · rfl
theorem pre_endsGo (o : List UInt8) (ok : Bool) : ∀ (l : List (List UInt8)) (p : PeerS), (p.pre o).endsGo ok l = (p.endsGo ok l).pre o
  | [], p => rfl
  | x :: r, p => by rw [PeerS.endsGo, PeerS.endsGo, pre_one, pre_endsGo o ok r]
theorem pre_ends (p : PeerS) (o : List UInt8) : (p.pre o).ends = p.ends.pre o := by
  unfold PeerS.ends
  rw [pre_code, pre_ask]
  show (if p.lmtp = true then (p.pre o).endsGo false p.tos else (p.ask.pre o).endsGo _ p.tos).anew = _
  rw [pre_endsGo, pre_endsGo]
  split <;> rfl
theorem pre_line (p : PeerS) (o : List UInt8) (x : List UInt8 × Bool) : (p.pre o).line x = (p.line x).pre o := by
  unfold PeerS.line
  show (if x.2 = true then _ else if p.inn = true then _ else _) = _
  split
  · exact pre_say p o 500
  · split
    · split
      · exact pre_ends p o
      · rfl
    · split
      · exact pre_say p o 250
      · split
        · exact pre_say p o 250
        · split
          · unfold PeerS.mail
            exact pre_ask ({ p.anew with path := _ } : PeerS) o
          · split
            · unfold PeerS.rcpt
              rw [pre_code, pre_ask]
              split
              · exact pre_say p o 500
              · split <;> rfl
            · split
              · unfold PeerS.data
                show (if p.tos = [] then _ else _) = _
                split
                · exact pre_say ({ p with inn := false } : PeerS) o 503
                · exact pre_say ({ p with inn := true } : PeerS) o 354
              · split
                · exact pre_say p o 221
                · exact pre_say p o 500
theorem pre_lines (o : List UInt8) : ∀ (ls : List (List UInt8 × Bool)) (p : PeerS), (p.pre o).lines ls = (p.lines ls).pre o
  | [], p => rfl
  | x :: r, p => by
    show ((p.pre o).line x).lines r = ((p.line x).lines r).pre o
    rw [pre_line, pre_lines o r]
theorem lines_append (ls ms : List (List UInt8 × Bool)) (p : PeerS) : p.lines (ls ++ ms) = (p.lines ls).lines ms := by unfold PeerS.lines; rw [List.foldl_append]

/-! ### A peer's framer is left alone by its lines -/
def PeerS.setF (p : PeerS) (F : List UInt8 × Bool) : PeerS := { p with f := F }
theorem setF_ask (p : PeerS) (F : List UInt8 × Bool) : (p.setF F).ask = p.ask.setF F := by simp [PeerS.setF, PeerS.ask, PeerS.code]
theorem setF_one (p : PeerS) (F : List UInt8 × Bool) (ok : Bool) (x : List UInt8) : (p.setF F).one ok x = (p.one ok x).setF F := by
  unfold PeerS.one
  rw [setF_ask]
  show (if ok = true then _ else if p.lmtp = true then (if p.code = 250 then _ else _) else _) = _
  repeat' split
  all_goals rfl
theorem setF_endsGo (F : List UInt8 × Bool) (ok : Bool) : ∀ (l : List (List UInt8)) (p : PeerS), (p.setF F).endsGo ok l = (p.endsGo ok l).setF F
  | [], p => rfl
  | x :: r, p => by rw [PeerS.endsGo, PeerS.endsGo, setF_one, setF_endsGo F ok r]
theorem setF_line (p : PeerS) (F : List UInt8 × Bool) (x : List UInt8 × Bool) : (p.setF F).line x = (p.line x).setF F := by
  unfold PeerS.line
  show (if x.2 = true then _ else if p.inn = true then _ else _) = _
  split
  · rfl
  · split
    · split
      · unfold PeerS.ends
        rw [setF_ask]
        show (if p.lmtp = true then (p.setF F).endsGo false p.tos else (p.ask.setF F).endsGo (decide (p.code = 250)) p.tos).anew = _
        rw [setF_endsGo, setF_endsGo]
        split <;> rfl
      · rfl
    · split
      · rfl
      · split
        · rfl
        · split
          · unfold PeerS.mail
            exact setF_ask ({ p.anew with path := _ } : PeerS) F
          · split
            · unfold PeerS.rcpt
              rw [setF_ask]
              show (if _ then _ else if p.code = 250 then _ else _) = _
              split
              · rfl
              · split <;> rfl
            · split
              · unfold PeerS.data
                show (if p.tos = [] then _ else _) = _
                split <;> rfl
              · split <;> rfl
theorem setF_lines (F : List UInt8 × Bool) : ∀ (ls : List (List UInt8 × Bool)) (p : PeerS), (p.setF F).lines ls = (p.lines ls).setF F
  | [], p => rfl
  | x :: r, p => by
    show ((p.setF F).line x).lines r = ((p.line x).lines r).setF F
    rw [setF_line, setF_lines F r]
theorem hear_eq (p : PeerS) (l : List UInt8) : p.hear l = (({ p with out := [] } : PeerS).lines (putL p.f l).2).setF (putL p.f l).1 := by
  unfold PeerS.hear
  exact setF_lines (putL p.f l).1 (putL p.f l).2 { p with out := [] }
theorem hear_parts (p : PeerS) (l m : List UInt8) (h : Clean p.f.1) : p.hear (l ++ m) = ((p.hear l).hear m).pre (p.hear l).out := by
  have e1 : p.hear (l ++ m) = ((({ p with out := [] } : PeerS).lines (putL p.f l).2).lines (putL (putL p.f l).1 m).2).setF (putL (putL p.f l).1 m).1 := by
    rw [hear_eq, putL_parts h, lines_append]
  have e2 := hear_eq p l
  generalize ({ p with out := [] } : PeerS).lines (putL p.f l).2 = q at *
  generalize (putL p.f l).1 = F at *
  rw [e1, e2]
  have e3 : (q.setF F).hear m = ((({ q with out := [] } : PeerS).setF F).lines (putL F m).2).setF (putL F m).1 := hear_eq (q.setF F) m
  rw [e3, setF_lines]
  have e4 : q = ({ q with out := [] } : PeerS).pre q.out := by simp [PeerS.pre]
  conv => lhs; rw [e4, pre_lines]
  rfl
theorem hear_clean (p : PeerS) (l : List UInt8) (h : Clean p.f.1) : Clean (p.hear l).f.1 := by
  have e1 : (p.hear l).f = (putL p.f l).1 := by rw [hear_eq]; rfl
  rw [e1]
  exact putL_stays h l

/-- A row of pieces, heard one by one: the peer, and all that it said. -/
def PeerS.hears : List (List UInt8) → PeerS → PeerS × List UInt8
  | [], p => (p, [])
  | l :: r, p => ((hears r (p.hear l)).1, (p.hear l).out ++ (hears r (p.hear l)).2)
theorem hear_cut (p : PeerS) (l : List UInt8) (h : Clean p.f.1) : cutF (p.hear l).f = (p.hear l).f := by
  have e1 : (p.hear l).f = (putL p.f l).1 := by rw [hear_eq]; rfl
  rw [e1, putL_clean h]
  exact (cutOf_cut _).same.symm
theorem hears_whole : ∀ (ls : List (List UInt8)) (p : PeerS), Clean p.f.1 → cutF p.f = p.f → p.hear ls.flatten = { (PeerS.hears ls p).1 with out := (PeerS.hears ls p).2 }
  | [], p, h, hc => by
    rw [hear_eq]
    have e : putL p.f ([] : List (List UInt8)).flatten = (p.f, []) := by
      rw [putL_clean h]
      simp only [List.flatten_nil, scan]
      rw [hc]
    rw [e]
    rfl
  | l :: r, p, h, hc => by
    rw [List.flatten_cons, hear_parts p l r.flatten h, hears_whole r (p.hear l) (hear_clean p l h) (hear_cut p l h)]
    rfl

/-! ### What was got comes in threes -/
theorem got_one (p : PeerS) (ok : Bool) (x : List UInt8) (h : p.got.length % 3 = 0) : (p.one ok x).got.length % 3 = 0 := by
  unfold PeerS.one
  repeat' split
  all_goals first
    | exact h
    | (simp only [PeerS.take, PeerS.ask, List.length_append, List.length_cons, List.length_nil]; omega)
theorem got_endsGo (ok : Bool) : ∀ (l : List (List UInt8)) (p : PeerS), p.got.length % 3 = 0 → (p.endsGo ok l).got.length % 3 = 0
  | [], p, h => h
  | x :: r, p, h => by rw [PeerS.endsGo]; exact got_endsGo ok r _ (got_one p ok x h)
theorem got_line (p : PeerS) (x : List UInt8 × Bool) (h : p.got.length % 3 = 0) : (p.line x).got.length % 3 = 0 := by
  unfold PeerS.line
  split
  · exact h
  · split
    · split
      · unfold PeerS.ends
        split
        · exact got_endsGo false p.tos p h
        · exact got_endsGo _ p.tos p.ask h
      · exact h
    · split
      · exact h
      · split
        · exact h
        · split
          · exact h
          · split
            · unfold PeerS.rcpt
              split
              · exact h
              · split <;> exact h
            · split
              · unfold PeerS.data
                split <;> exact h
              · split <;> exact h
theorem got_lines : ∀ (ls : List (List UInt8 × Bool)) (p : PeerS), p.got.length % 3 = 0 → (p.lines ls).got.length % 3 = 0
  | [], p, h => h
  | x :: r, p, h => got_lines r (p.line x) (got_line p x h)
theorem got_hear (p : PeerS) (l : List UInt8) (h : p.got.length % 3 = 0) : (p.hear l).got.length % 3 = 0 := got_lines _ _ h

end Go.Proofs.YthbofddadgmghaaGreatDoor
