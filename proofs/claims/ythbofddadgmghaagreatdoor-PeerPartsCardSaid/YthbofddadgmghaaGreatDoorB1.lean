/- Appends to a peer's own slices; take, mail, rcpt, data, ends. -/
import Derived.Test.YthbofddadgmghaaGreatDoorB0
import Derived.ArgAppend
import Derived.Deep.RegionLaw
set_option linter.unusedVariables false
set_option linter.unusedSimpArgs false
namespace Go.Proofs.YthbofddadgmghaaGreatDoor
open Go.RowKit Go.Shelf

theorem owns_base {w : World} {B e size n : Nat} {v : Value} {xs : List Value} (h : w.ownsRow B e size v n xs) : w.ownsRow 0 e size v n xs := by
  rcases h with ⟨h1, h2 | ⟨g, cap, cur, hv, hg, r⟩⟩
  · exact ⟨h1, .inl h2⟩
  · exact ⟨h1, .inr ⟨g, cap, cur, hv, Nat.zero_le _, r⟩⟩
/-- An append to a row, of which it is also told that it stays in its block, or lies in a new one. -/
theorem append_same {P : Program} (w : World) (t ty e : TypeId) (i : TypeInfo) (z : Value) (size bytes : Nat) (ht : P.underlying t = some (.slice e)) (hi : P.info? e = some i) (hz : i.zero = some z)
    (hsize : i.size = size) (hby : i.bytes = bytes) (hzs : z.cells.size = size) (hsz : 0 < size)
    (v : Value) (n : Nat) (xs : List Value) (hown : w.ownsRow 0 e size v n xs)
    (a : Addr) (m c : Nat) (news : List Value) (hl : news.length = m * size) (hnews : ∀ j u, news[j]? = some u → w.cell? (a.add j) = some u) (h1 : ∀ u ∈ news, u.oneCell' = true)
    (h63 : n + m ≤ maxLen) (hbytes : (n + m) * bytes ≤ 140737488355328) :
    ∃ v' w', (Builtin.append_ #[t, t] ty #[v, .slice (some a) m c]).run P w = .ok v' w' ∧ w'.ownsRow 0 e size v' (n + m) (xs ++ news) ∧ w.grownBy w' v.ownBlock ∧
      (∀ k, v'.ownBlock = some k → v.ownBlock = some k ∨ w.heap.size ≤ k) := by
  rcases hown.2 with ⟨rfl, rfl⟩ | ⟨g, cap, cur, rfl, hbg, hg, hnc, hcm, hcs, htake⟩
  · have hxs : xs = [] := List.eq_nil_of_length_eq_zero (by simpa using hown.1)
    subst hxs
    obtain ⟨v', w', hr, ho, hgr, _⟩ := run_append_own (P := P) w w.heap.size t ty e i z size bytes ht hi hz hsize hby hzs hsz _ 0 [] (World.ownsRow_nil _ _ _ _) a m c news hl hnews h1 h63 hbytes (Nat.le_refl _)
    exact ⟨v', w', hr, owns_base ho, hgr, fun k hk => .inr (ho.lt k hk).1⟩
  · by_cases hroom : n + m ≤ cap
    · obtain ⟨w', hr, ho, hgr⟩ := run_append_fits (P := P) w 0 t ty e i size ht hi hsize g n cap xs hown a m c news hl hnews h1 hroom
      exact ⟨_, w', hr, ho, hgr, fun k hk => .inl hk⟩
    · obtain ⟨v', w', hr, ho, hgr⟩ := run_append_arg_grows (P := P) w t ty e i z size bytes ht hi hz hsize hby hzs hsz ⟨g, 0, none⟩ n cap xs hown.1 (hown.cells (g := g) rfl) a m c news hl hnews (by omega) h63 hbytes
      exact ⟨v', w', hr, owns_base ho, ⟨hgr.os, hgr.tape, hgr.output, hgr.size, fun k hk _ => hgr.block k hk (by simp)⟩, fun k hk => .inr (ho.lt k hk).1⟩
theorem wpList_append_same {P : Program} (w : World) {ops : Array Oper} {rest : List Oper} {o : Oper} {a : Act} {Q : Exit → Act → World → Prop} (hgd : o.guard = none) (s x : Operand) (t : TypeId)
    (ho : o.op = .call { callee := .builtin .append, args := #[s, x], argTypes := #[t, t] })
    (e : TypeId) (i : TypeInfo) (z : Value) (size bytes : Nat) (ht : P.underlying t = some (.slice e)) (hi : P.info? e = some i) (hz : i.zero = some z)
    (hsize : i.size = size) (hby : i.bytes = bytes) (hzs : z.cells.size = size) (hsz : 0 < size)
    (v : Value) (n : Nat) (xs : List Value) (hs : a.eval s = v) (hown : w.ownsRow 0 e size v n xs)
    (ad : Addr) (m c : Nat) (news : List Value) (hx : a.eval x = .slice (some ad) m c) (hl : news.length = m * size) (hnews : ∀ j u, news[j]? = some u → w.cell? (ad.add j) = some u) (h1 : ∀ u ∈ news, u.oneCell' = true)
    (h63 : n + m ≤ maxLen) (hbytes : (n + m) * bytes ≤ 140737488355328)
    (h : ∀ v' w', w'.ownsRow 0 e size v' (n + m) (xs ++ news) → w.grownBy w' v.ownBlock → (∀ k, v'.ownBlock = some k → v.ownBlock = some k ∨ w.heap.size ≤ k) → wpList P ops Q rest (a.put o.dst v') w') : wpList P ops Q (o :: rest) a w := by
  refine wpList_plain hgd fun K hK => ?_
  obtain ⟨v', w', hr, h2, h3, h4⟩ := append_same (P := P) w t o.type e i z size bytes ht hi hz hsize hby hzs hsz v n xs hown ad m c news hl hnews h1 h63 hbytes
  unfold Oper.wp execOp
  simp only [ho, resolve, invoke, builtin, Sem.run_bind, Sem.run_pure, Result.andThen_ok, List.map_toArray, List.map_cons, List.map_nil, hs, hx, hr]
  exact hK _ _ (h v' w' h2 h3 h4)
theorem step_append_same {P : Program} {ops : Array Oper} {o : Oper} {a : Act} {w : World} {K : Act → World → Prop} {Q : Exit → Act → World → Prop} {E : Prop}
    (hg : o.guard = none) (s x : Operand) (t : TypeId) (ho : o.op = .call { callee := .builtin .append, args := #[s, x], argTypes := #[t, t] })
    (e : TypeId) (i : TypeInfo) (z : Value) (size bytes : Nat) (ht : P.underlying t = some (.slice e)) (hi : P.info? e = some i) (hz : i.zero = some z)
    (hsize : i.size = size) (hby : i.bytes = bytes) (hzs : z.cells.size = size) (hsz : 0 < size)
    (v : Value) (n : Nat) (xs : List Value) (hs : a.eval s = v) (hown : w.ownsRow 0 e size v n xs)
    (ad : Addr) (m c : Nat) (news : List Value) (hx : a.eval x = .slice (some ad) m c) (hl : news.length = m * size) (hnews : ∀ j u, news[j]? = some u → w.cell? (ad.add j) = some u) (h1 : ∀ u ∈ news, u.oneCell' = true)
    (h63 : n + m ≤ maxLen) (hbytes : (n + m) * bytes ≤ 140737488355328)
    (h : ∀ ao n' c' w', w'.ownsRow 0 e size (.slice ao n' c') (n + m) (xs ++ news) → w.grownBy w' v.ownBlock → (∀ k, (Value.slice ao n' c').ownBlock = some k → v.ownBlock = some k ∨ w.heap.size ≤ k) → K (a.put o.dst (.slice ao n' c')) w') :
    if Region.wanted o (yielded ops a.tmps) = true then Oper.wp P o a w K Q else E := by
  have hw : Region.wanted o (yielded ops a.tmps) = true := by simp [Region.wanted, hg]
  rw [if_pos hw]
  obtain ⟨v', w', hr, h2, h3, h4⟩ := append_same (P := P) w t o.type e i z size bytes ht hi hz hsize hby hzs hsz v n xs hown ad m c news hl hnews h1 h63 hbytes
  unfold Oper.wp execOp
  simp only [ho, resolve, invoke, builtin, Sem.run_bind, Sem.run_pure, Result.andThen_ok, List.map_toArray, List.map_cons, List.map_nil, hs, hx, hr]
  rcases h2.2 with ⟨rfl, _⟩ | ⟨g, cap, cur, rfl, _⟩
  · exact h _ _ _ w' h2 h3 h4
  · exact h _ _ _ w' h2 h3 h4
theorem strCells_one (l : List (List UInt8)) : ∀ u ∈ strCells l, u.oneCell' = true := by
  intro u hu
  obtain ⟨x, _, rfl⟩ := List.mem_map.1 hu
  rfl
theorem info9 : (Tryz.prog.info? 9).map (fun i => (i.zero, i.size, i.bytes)) = some (some (.string ⟨#[]⟩), 1, 16) := by kernel_rfl

section
variable {own no : Nat → Prop} {b : Nat} {p : PeerS} {rv tv gv : Value} {w w' : World}
theorem grown_moves (h : PeerRow own no b p rv tv gv w) {W1 : World} {x : Value} (hx : ∀ k, x.ownBlock = some k → own k ∧ k ≠ b) (hgr : w.grownBy W1 x.ownBlock) : Moves own w W1 ∧ W1.heap[b]? = some (.cells (rowP p rv tv gv) 130 (0, 0)) :=
  ⟨(Moves.refl own w).grown hgr (fun k hk => (hx k hk).1), (hgr.block b h.lt (fun e => (hx b e.symm).2 rfl)).trans h.blk⟩
/-- 'p.got = append(p.got, ..)'. -/
theorem PeerRow.appendGot (h : PeerRow own no b p rv tv gv w) {W1 : World} {gv' : Value} {news : List (List UInt8)} (ho : W1.ownsRow 0 9 1 gv' (p.got.length + news.length) (strCells p.got ++ strCells news)) (hgr : w.grownBy W1 gv.ownBlock) (hb : ∀ k, gv'.ownBlock = some k → gv.ownBlock = some k ∨ w.heap.size ≤ k) :
    PeerRow own no b { p with got := p.got ++ news } rv tv gv' (W1.setCell ⟨b, 8, none⟩ gv') ∧ Moves own w (W1.setCell ⟨b, 8, none⟩ gv') := by
  obtain ⟨hm, hblk⟩ := grown_moves h h.gowns hgr
  have hg' : ∀ k, gv'.ownBlock = some k → own k ∧ k ≠ b := fun k hk => by
    rcases hb k hk with e | e
    · exact h.gowns k e
    · exact ⟨h.fut k e, fun e2 => by have := h.lt; omega⟩
  have hto : W1.ownsRow 0 9 1 tv p.tos.length (strCells p.tos) := h.tos.kept hgr (by
    cases hk : tv.ownBlock with
    | none => exact .inl rfl
    | some k => exact .inr fun e => h.sep k hk e.symm)
  have hrow : PeerRow own no b { p with got := p.got ++ news } rv tv gv' (W1.setCell ⟨b, 8, none⟩ gv') := by
    have h1 : W1.grownBy (W1.setCell ⟨b, 8, none⟩ gv') (some b) := ⟨rfl, rfl, rfl, by simp [World.setCell], fun k _ hk => Below.heap_setCell W1 _ gv' k (fun e => hk (by rw [e]))⟩
    have keeps : ∀ {e size n : Nat} {x : Value} {xs : List Value}, W1.ownsRow 0 e size x n xs → (∀ k, x.ownBlock = some k → k ≠ b) → (W1.setCell ⟨b, 8, none⟩ gv').ownsRow 0 e size x n xs := fun hx hk => hx.kept h1 (by
      rename_i x _
      cases hb : x.ownBlock with
      | none => exact .inl rfl
      | some k => exact .inr fun e => hk k hb (by injection e))
    have hm2 := hm.setCell (p := ⟨b, 8, none⟩) h.ownb gv'
    refine ⟨?_, h.ownb, fun k hk => h.fut k (Nat.le_trans hm2.size hk), h.dis, h.low, h.ints.moves hm2 h.dis, keeps hto (fun k hk => (h.towns k hk).2), ?_, h.towns, hg', ?_⟩
    · rw [heap_setCell_same W1 b 8 _ _ gv' hblk]; rfl
    · have := keeps ho (fun k hk => (hg' k hk).2)
      simpa [strCells] using this
    · intro k hk e
      rcases hb k e with e2 | e2
      · exact h.sep k hk e2
      · have := (h.tos.lt k hk).2; omega
  exact ⟨hrow, hm.setCell (p := ⟨b, 8, none⟩) h.ownb gv'⟩
/-- 'p.to = append(p.to, ..)'. -/
theorem PeerRow.appendTo (h : PeerRow own no b p rv tv gv w) {W1 : World} {tv' : Value} {news : List (List UInt8)} (ho : W1.ownsRow 0 9 1 tv' (p.tos.length + news.length) (strCells p.tos ++ strCells news)) (hgr : w.grownBy W1 tv.ownBlock) (hb : ∀ k, tv'.ownBlock = some k → tv.ownBlock = some k ∨ w.heap.size ≤ k) :
    PeerRow own no b { p with tos := p.tos ++ news } rv tv' gv (W1.setCell ⟨b, 5, none⟩ tv') ∧ Moves own w (W1.setCell ⟨b, 5, none⟩ tv') := by
  obtain ⟨hm, hblk⟩ := grown_moves h h.towns hgr
  have hg' : ∀ k, tv'.ownBlock = some k → own k ∧ k ≠ b := fun k hk => by
    rcases hb k hk with e | e
    · exact h.towns k e
    · exact ⟨h.fut k e, fun e2 => by have := h.lt; omega⟩
  have hgo : W1.ownsRow 0 9 1 gv p.got.length (strCells p.got) := h.got.kept hgr (by
    cases hk : gv.ownBlock with
    | none => exact .inl rfl
    | some k => exact .inr fun e => h.sep k e.symm hk)
  have hrow : PeerRow own no b { p with tos := p.tos ++ news } rv tv' gv (W1.setCell ⟨b, 5, none⟩ tv') := by
    have h1 : W1.grownBy (W1.setCell ⟨b, 5, none⟩ tv') (some b) := ⟨rfl, rfl, rfl, by simp [World.setCell], fun k _ hk => Below.heap_setCell W1 _ tv' k (fun e => hk (by rw [e]))⟩
    have keeps : ∀ {e size n : Nat} {x : Value} {xs : List Value}, W1.ownsRow 0 e size x n xs → (∀ k, x.ownBlock = some k → k ≠ b) → (W1.setCell ⟨b, 5, none⟩ tv').ownsRow 0 e size x n xs := fun hx hk => hx.kept h1 (by
      rename_i x _
      cases hb : x.ownBlock with
      | none => exact .inl rfl
      | some k => exact .inr fun e => hk k hb (by injection e))
    have hm2 := hm.setCell (p := ⟨b, 5, none⟩) h.ownb tv'
    refine ⟨?_, h.ownb, fun k hk => h.fut k (Nat.le_trans hm2.size hk), h.dis, h.low, h.ints.moves hm2 h.dis, ?_, keeps hgo (fun k hk => (h.gowns k hk).2), hg', h.gowns, ?_⟩
    · rw [heap_setCell_same W1 b 5 _ _ tv' hblk]; rfl
    · have := keeps ho (fun k hk => (hg' k hk).2)
      simpa [strCells] using this
    · intro k hk e
      rcases hb k hk with e2 | e2
      · exact h.sep k e2 e
      · have := (h.got.lt k e).2; omega
  exact ⟨hrow, hm.setCell (p := ⟨b, 5, none⟩) h.ownb tv'⟩
end

/-! take -/
def PeerS.take (p : PeerS) (x : List UInt8) : PeerS := { p with got := p.got ++ [p.path, x, p.text] }
theorem Moves.drewAlloc {own : Nat → Prop} {w W : World} {o : Obj} (h : Moves own (w.drew.alloc o) W) : Moves own w W := (Moves.ofBelow ((Below.refl w.heap.size w).drew.alloc (Nat.le_refl _) o)).trans h
set_option maxHeartbeats 1000000 in
theorem take_c (own no : Nat → Prop) (b : Nat) (p : PeerS) (rv tv gv : Value) (x : List UInt8) (w : World) (h : PeerRow own no b p rv tv gv w) (hl : p.got.length ≤ 1099511627776) :
    Calls Tryz.prog 205 #[.pointer (some ⟨b, 0, none⟩), .string (str x)] w fun e w' => e = .returned (.tuple #[]) ∧ ∃ gv', PeerRow own no b (p.take x) rv tv gv' w' ∧ Moves own w w' := by
  obtain ⟨i0, hi, hz0, hz1, hz2⟩ := info_parts info9
  have hlt := h.lt
  have c4 : w.cell? ⟨b, 4, none⟩ = some (.string (str p.path)) := h.cell 4
  have c6 : w.cell? ⟨b, 6, none⟩ = some (.string (str p.text)) := h.cell 6
  have c8 : w.cell? ⟨b, 8, none⟩ = some gv := h.cell 8
  have f8 := h.cold 8
  have HP := Lib.hid h
  have hgot := h.got
  clear h
  go_enter Tryz.func205, Tryz.ntmps205
  have hn3 : ∀ W : World, ∀ j u, (strCells [p.path, x, p.text])[j]? = some u → (W.alloc (.cells #[.string (str p.path), .string (str x), .string (str p.text)] 9)).cell? ((⟨W.heap.size, 0, none⟩ : Addr).add j) = some u := by
    intro W j u hj
    match j, hj with
    | 0, hj => simp [strCells] at hj; subst hj; simp [Addr.add]
    | 1, hj => simp [strCells] at hj; subst hj; simp [Addr.add]
    | 2, hj => simp [strCells] at hj; subst hj; simp [Addr.add]
  have HN := Lib.hid hn3
  clear hn3
  have hcold : ∀ W1, (w.drew.alloc (.cells #[.string (str p.path), .string (str x), .string (str p.text)] 9)).grownBy W1 gv.ownBlock → W1.cell? ⟨b, 8, none⟩ = some gv ∧ W1.frozen? ⟨b, 8, none⟩ = false := by
    intro W1 hgr
    have h1 := HP.out.below ((Below.refl w.heap.size w).drew.alloc (Nat.le_refl _) (.cells #[.string (str p.path), .string (str x), .string (str p.text)] 9))
    have h2 := (grown_moves h1 h1.gowns hgr).2
    exact ⟨by unfold World.cell?; rw [h2]; rfl, frozen_of_row W1 b 8 _ _ h2⟩
  have HC := Lib.hid hcold
  clear hcold
  have hB := (Below.refl w.heap.size w).drew.alloc (Nat.le_refl _) (.cells #[.string (str p.path), .string (str x), .string (str p.text)] 9)
  go_region_law (refine step_append_same rfl (.tmp 8) (.tmp 18) 37 rfl 9 i0 (.string ⟨#[]⟩) 1 16 Tryz.underlying37 hi hz0 hz1 hz2 rfl (by decide) gv p.got.length (strCells p.got) (by simp [Act.eval, Act.put]) (hgot.drew.alloc _) ⟨w.heap.size, 0, none⟩ 3 3 (strCells [p.path, x, p.text]) (by simp [Act.eval, Act.put]) rfl (HN.out w.drew) (strCells_one _) (by unfold maxLen; omega) (by omega) ?_; intro ao n' c' w1 ho hgr hk; obtain ⟨d8, e8⟩ := HC.out w1 hgr)
  all_goals
    go_wp2
    go_end0
    have h1 := HP.out.below hB
    obtain ⟨r1, r2⟩ := h1.appendGot (news := [p.path, x, p.text]) ho hgr hk
    exact ⟨rfl, _, r1, r2.drewAlloc⟩

end Go.Proofs.YthbofddadgmghaaGreatDoor
