/- Walks of the package peer: Hear. -/
import Derived.Test.YthbofddadgmghaaGreatDoorB6
set_option linter.unusedVariables false
set_option linter.unusedSimpArgs false
namespace Go.Proofs.YthbofddadgmghaaGreatDoor
open Go.RowKit Go.Shelf

def PeerS.lines (p : PeerS) (ls : List (List UInt8 × Bool)) : PeerS := ls.foldl PeerS.line p
def PeerS.hear (p : PeerS) (l : List UInt8) : PeerS := ({ p with f := (putL p.f l).1, out := [] } : PeerS).lines (putL p.f l).2
theorem cutF_len (f : List UInt8 × Bool) : (cutF f).1.length ≤ 511 := by
  unfold cutF
  split
  · rename_i h; omega
  · simp only; split <;> simp
theorem lineCells_at : ∀ (ls : List (List UInt8 × Bool)) (k : Nat) (h : k < ls.length), (lineCells ls)[2 * k]? = some (.string (str ls[k].1)) ∧ (lineCells ls)[2 * k + 1]? = some (.bool ls[k].2)
  | [], k, h => by simp at h
  | x :: r, 0, h => by simp [lineCells]
  | x :: r, k + 1, h => by
    have := lineCells_at r k (by simpa using h)
    have e : lineCells (x :: r) = .string (str x.1) :: .bool x.2 :: lineCells r := by simp [lineCells]
    rw [e, show 2 * (k + 1) = 2 * k + 1 + 1 by omega]
    simpa using this
theorem lineCell {w : World} {B n : Nat} {v : Value} {ls : List (List UInt8 × Bool)} (h : w.ownsRow B 139 2 v n (lineCells ls)) (hn : n = ls.length) (k : Nat) (hk : k < ls.length) :
    ∃ g c, v = .slice (some ⟨g, 0, none⟩) n c ∧ B ≤ g ∧ g < w.heap.size ∧ w.cell? ⟨g, 2 * k, none⟩ = some (.string (str ls[k].1)) ∧ w.cell? ⟨g, 2 * k + 1, none⟩ = some (.bool ls[k].2) := by
  obtain ⟨g, c, hv, hB, hlt⟩ := h.form (by omega)
  have hc := h.cells (g := g) (by rw [hv]; rfl)
  obtain ⟨e1, e2⟩ := lineCells_at ls k hk
  have c1 := hc _ _ e1
  have c2 := hc _ _ e2
  rw [Addr.add_lit, Nat.zero_add] at c1 c2
  exact ⟨g, c, hv, hB, hlt, c1, c2⟩

set_option maxHeartbeats 2000000 in
theorem Hear_c (own no : Nat → Prop) (b : Nat) (p : PeerS) (rv tv gv v : Value) (l : List UInt8) (N : Nat) (w : World) (h : PeerRow own no b p rv tv gv w) (hE : Env w) (hv : IsBytes w v l) (hp : Small N p) (hN : N + l.length + 512 ≤ 1073741824) (hl : l.length ≤ 268435456) (hf : p.f.1.length ≤ 511) :
    Calls Tryz.prog 25 #[.pointer (some ⟨b, 0, none⟩), v] w fun e w' => e = .returned (.string (str (p.hear l).out)) ∧ ∃ rv' tv' gv', PeerRow own no b (p.hear l) rv' tv' gv' w' ∧ Moves own w w' := by
  have c2 : w.cell? ⟨b, 2, none⟩ = some (.string (str p.f.1)) := h.cell 2
  have c3 : w.cell? ⟨b, 3, none⟩ = some (.bool p.f.2) := h.cell 3
  have hput := Put_c p.f v l w hE hv (by omega) hl
  have hlens := scan_lens (p.f.1 ++ l) [] p.f.2
  have hls : (∀ x ∈ (putL p.f l).2, x.1.length ≤ 510) ∧ (putL p.f l).2.length ≤ l.length + 511 := ⟨hlens.1, by have := hlens.2; simp at this; show (scan p.f.2 [] (p.f.1 ++ l)).2.length ≤ _; omega⟩
  have hH : p.hear l = ({ p with f := (putL p.f l).1, out := [] } : PeerS).lines (putL p.f l).2 := rfl
  have HH := Lib.hid hH
  have HLS := Lib.hid hls
  clear hlens hls hH
  generalize p.hear l = ph at *
  generalize putL p.f l = pt at *
  obtain ⟨⟨fr, fs⟩, ls⟩ := pt
  simp only at hput
  have HP := Lib.hid h
  clear h
  go_enter Tryz.func25, Tryz.ntmps25
  go_wp2_with fail
  refine hput.mono ?_
  rintro e w1 ⟨v', rfl, hown1, hB1⟩
  obtain ⟨ao, c, rfl⟩ := row_form hown1
  have hB2 := hB1.alloc hB1.size (.cells #[.string (str fr), .bool fs] 128)
  obtain ⟨x0, x1, x2⟩ := cells2 w1 (.string (str fr)) (.bool fs) 128
  have row2 := HP.out.hole hB2
  have hmo : ∀ k, (fun k => own k ∧ ¬ (w.heap.size ≤ k ∧ k < (w1.alloc (.cells #[.string (str fr), .bool fs] 128)).heap.size)) k → own k := fun k hk => hk.1
  have hhole : ∀ k, w.heap.size ≤ k → k < (w1.alloc (.cells #[.string (str fr), .bool fs] 128)).heap.size → ¬ (fun k => own k ∧ ¬ (w.heap.size ≤ k ∧ k < (w1.alloc (.cells #[.string (str fr), .bool fs] 128)).heap.size)) k := fun k h1 h2 h3 => h3.2 ⟨h1, h2⟩
  generalize (fun k => own k ∧ ¬ (w.heap.size ≤ k ∧ k < (w1.alloc (.cells #[.string (str fr), .bool fs] 128)).heap.size)) = own2 at *
  have r1 := row2.store 2 (.string (str fr)) { p with f := (fr, p.f.2) } rfl rfl rfl rfl
  have r2 := r1.store 3 (.bool fs) { p with f := (fr, fs) } rfl rfl rfl rfl
  have r3 := r2.store 9 (.string (str [])) { p with f := (fr, fs), out := [] } rfl rfl rfl rfl
  have m3 := (((Moves.refl own2 (w1.alloc (.cells #[.string (str fr), .bool fs] 128))).setCell (p := ⟨b, 2, none⟩) row2.ownb (.string (str fr))).setCell (p := ⟨b, 3, none⟩) row2.ownb (.bool fs)).setCell (p := ⟨b, 9, none⟩) row2.ownb (.string (str []))
  have d2 := row2.cell 2
  have d3 := r1.cell 3
  have d9 := r2.cell 9
  have e2 := row2.cold 2
  have e3 := r1.cold 3
  have e9 := r2.cold 9
  have R3 := Lib.hid r3
  have M3 := Lib.hid m3
  have HMO := Lib.hid hmo
  have HHO := Lib.hid hhole
  have hE2 := hE.below hB2
  have HB2 := Lib.hid hB2
  have hlow : ∀ k, k < 9 → ¬ own2 k := row2.cool
  have HL := Lib.hid hlow
  have HOW := Lib.hid hown1
  have HBS := Lib.hid hB1.size
  simp only [List.getElem?_toArray, List.getElem?_cons_succ, List.getElem?_cons_zero] at d2 d3 d9
  clear r1 r2 r3 m3 row2 hmo hhole hB2 hB1 hlow x2 hput hv hown1
  go_wp2_with fail
  clear d2 d3 d9 e2 e3 e9 x0 x1 c2 c3
  have hm03 : Moves own2 w _ := (Moves.ofBelow HB2.out).trans M3.out
  have hE3 := hm03.env HL.out hE
  have HM03 := Lib.hid hm03
  clear hm03 hE2
  have hlc : ∀ wr, Moves own2 (w1.alloc (.cells #[.string (str fr), .bool fs] 128)) wr → ∀ k (hk : k < ls.length), ∃ g, ao = some ⟨g, 0, none⟩ ∧ wr.cell? ⟨g, k * 2, none⟩ = some (.string (str ls[k].1)) ∧ wr.cell? ⟨g, k * 2 + 1, none⟩ = some (.bool ls[k].2) := by
    intro wr hm k hk
    obtain ⟨g, c', hv', hBg, hlt, u1, u2⟩ := lineCell HOW.out rfl k hk
    injection hv' with hv' _ _
    rw [Nat.mul_comm 2 k] at u1 u2
    have hno : ¬ own2 g := HHO.out g (by omega) (by simp; omega)
    exact ⟨g, hv', hm.cell (cellOld _ u1) hno, hm.cell (cellOld _ u2) hno⟩
  have HLC := Lib.hid hlc
  clear hlc
  generalize (w1.alloc (.cells #[.string (str fr), .bool fs] 128)) = W2 at *
  have hst : Small (N + 0) ({ p with f := (fr, fs), out := [] } : PeerS) := ⟨hp.got, by have := hp.out; show 0 + 40 * p.tos.length ≤ _; omega, hp.text⟩
  go_loopw [27] (fun i wr => ∃ (k : Nat) (q : PeerS) (rv' tv' gv' : Value), k ≤ ls.length ∧ i = .int .i64 k ∧ PeerRow own2 no b q rv' tv' gv' wr ∧ Moves own2 W2 wr ∧ Hid (q.lines (ls.drop k) = ph) ∧ Small (N + k) q) (fun i _ => ls.length - (intOf i).toNat)
  case atStart => exact ⟨0, _, rv, tv, gv, Nat.zero_le _, rfl, R3.out, M3.out, HH.out.symm, hst⟩
  case round =>
    obtain ⟨k, q, rv', tv', gv', hk, rfl, hrow, hmv, HQ, hsm⟩ := hrel
    by_cases hlt : k < ls.length
    · obtain ⟨g, rfl, u1, u2⟩ := HLC.out wr hmv k hlt
      have hgo := HQ.out
      rw [List.drop_eq_getElem_cons hlt] at hgo
      have hx := HLS.out.1 _ (List.getElem_mem hlt)
      have hlen := HLS.out.2
      generalize ls[k] = x at *
      obtain ⟨xl, xb⟩ := x
      have hb := belowAlloc wr (.cells #[.string (str xl), .bool xb] 139)
      have hEr := ((Moves.ofBelow (own := own2) HB2.out).trans hmv).env HL.out hE
      have hln := pline_c own2 no b q rv' tv' gv' (xl, xb) (N + k) _ (hrow.below hb) (hEr.below hb) hsm (by omega) hx
      have hsm2 := small_line hsm (xl, xb) hx
      have HGO := Lib.hid (show (q.line (xl, xb)).lines (ls.drop (k + 1)) = ph from hgo)
      have HMV := Lib.hid (hmv.trans (Moves.ofBelow hb))
      obtain ⟨y0, y1, _⟩ := cells2 wr (.string (str xl)) (.bool xb) 139
      clear hgo hrow hb HQ
      have hend : ∀ W, Moves own2 W2 W → Moves own w W := fun W hW => ((Moves.ofBelow HB2.out).trans hW).mono (fun k _ hk => HMO.out k hk)
      clear hend
      go_wp2_with fail
      refine hln.mono ?_
      rintro e w3 ⟨rfl, rv3, tv3, gv3, h3, m3⟩
      go_wp2
      go_roundw
      case rel => exact ⟨k + 1, q.line (xl, xb), rv3, tv3, gv3, by omega, by go_num, h3, HMV.out.trans m3, HGO, hsm2⟩
      case measure => simp [intOf]; omega
    · have hke : k = ls.length := by omega
      have hgo := HQ.out
      rw [List.drop_eq_nil_of_le (by omega)] at hgo
      have hqe : q = ph := hgo
      subst hqe
      have c9 : wr.cell? ⟨b, 9, none⟩ = some (.string (str q.out)) := hrow.cell 9
      have hmw : Moves own w wr := ((Moves.ofBelow HB2.out).trans hmv).mono (fun k _ hk => HMO.out k hk)
      have hfin := HP.out.fill hrow HMO.out hmw.size
      have HF := Lib.hid (And.intro hfin hmw)
      clear hfin hmw hrow hgo
      go_wp2
      go_ret
      exact ⟨rfl, _, _, _, HF.out.1, HF.out.2⟩

end Go.Proofs.YthbofddadgmghaaGreatDoor
