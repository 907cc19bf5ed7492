/- Arguments as data: what a row's reading gives the walks (lengths, cells). -/
import Derived.Test.YthbofddadgmghaaGreatDoorD0
import Derived.Test.YthbofddadgmghaaGreatDoorC4
import Derived.Deep.Slices
set_option linter.unusedVariables false
set_option linter.unusedSimpArgs false
set_option maxRecDepth 100000
namespace Go.Proofs.YthbofddadgmghaaGreatDoor
open Go.ChangeShapes Go.WideShapes Go.ChangeAt Go.RowKit Go.Lib

/-- A row's frame: the listed variables read as listed, and the world has the program's shape. -/
theorem lift_shaped {H : Type} {enc : TypeId × Value → H} {a : Assume} {C : Checked} {os : Os} {f : FuncId} {fn : Func} {s : ChangeSpec} {conds : List PathCond} {apart fresh handsOn again : Bool} {X : World → Array Value → Prop}
    (hX : ∀ (w w' : World) (args : Array Value), w.heap = w'.heap → X w args → X w' args)
    (own : ownKnob C.prog.godebug = none) (started : os.Started) (noInit : C.prog.inits.idxOf? f = none) (hfn : C.prog.funcs[f]? = some fn)
    (witness : ∃ (w : World) (tape : Tape) (i : Input), w.os = os ∧ (w.forCall tape i).Shaped C.prog ∧ i.vars = [] ∧ Input.okWide C.prog (w.forCall tape i) .any w.heap.size f i ∧
      ((s.pre enc C.prog fn conds apart (w.forCall tape i).memory i.args ∧ X (w.forCall tape i).memory i.args) ∧ sizedMet enc C.prog fn (OpenSpec.ofChange s) apart (w.forCall tape i).memory i.args) ∧ a.holds C.prog (lone (Frame.enter C.prog f i.args .normal) [] (w.forCall tape i)))
    (contract : ∀ (W : World) (base : Nat) (args : Array Value) (ds gs : List (DataW H)) (before : List MemPlace),
      (∀ (j : Nat) t v, fn.params[j]? = some t → args[j]? = some v → Value.okWide C.prog W .any base t v) →
      DataW.Whole enc C.prog fn.params.toList s.vars apart W args.toList ds gs before →
      (DataW.weightsEach C.prog (fn.params.toList ++ s.plain.varTypes C.prog) (ds ++ gs)).all (· ≤ reachBytes) = true → X W args → W.ShapedOpen C.prog →
      Calls C.prog f args W fun e W' => ∃ v, e = .returned v ∧ s.post enc C.prog fn apart fresh handsOn again W args v W') :
    ReturnsInHanded a C os f .any (fun w args => (s.pre enc C.prog fn conds apart w args ∧ X w args) ∧ sizedMet enc C.prog fn (OpenSpec.ofChange s) apart w args) (s.post enc C.prog fn apart fresh handsOn again) := by
  refine returnsInHanded_of_calls own started noInit witness ?_
  intro w tape i _ hsh _ hok hpre hholds
  obtain ⟨_, _, _, fn', hfn', _, _, _, _, hval⟩ := hok
  have e : fn' = fn := Option.some.inj (hfn'.symm.trans hfn)
  subst e
  obtain ⟨⟨⟨ds, gs, before, hw, hc⟩, hx⟩, hz⟩ := hpre
  have hw' := DataW.Whole.of_heap (w' := w.forCall tape i) (by rfl) hw
  refine (contract (w.forCall tape i) w.heap.size i.args ds gs before hval hw' (hz.weights hw) (hX _ _ _ (by rfl) hx) hsh).mono fun e W' ⟨v, he, hp⟩ => ?_
  subst he
  exact ChangeSpec.post_blind hp

section
variable {H : Type}
/-- Nothing in it is beyond the reach. -/
def Wt (t : TypeId) (d : DataW H) : Prop := ∀ n ∈ DataW.weights Tryz.prog t d, n ≤ reachBytes
theorem Wt.ofRow {t : TypeId} {d : DataW H} {ts : List TypeId} {ds : List (DataW H)} (h : (DataW.weightsEach Tryz.prog (t :: ts) (d :: ds)).all (· ≤ reachBytes) = true) : Wt t d := by
  intro n hn
  rw [List.all_eq_true] at h
  have := h n (by rw [DataW.weightsEach]; exact List.mem_append_left _ hn)
  simpa using this
theorem Wt.each {ts : List TypeId} {ds : List (DataW H)} (h : ∀ n ∈ DataW.weightsEach Tryz.prog ts ds, n ≤ reachBytes) : ∀ (j : Nat) t d, ts[j]? = some t → ds[j]? = some d → Wt t d := by
  induction ts generalizing ds with
  | nil => intro j t d ht; simp at ht
  | cons t0 ts ih =>
    intro j t d ht hd
    cases ds with
    | nil => simp at hd
    | cons d0 ds =>
      rw [DataW.weightsEach] at h
      cases j with
      | zero =>
        simp at ht hd
        subst ht hd
        exact fun n hn => h n (List.mem_append_left _ hn)
      | succ j => exact ih (fun n hn => h n (List.mem_append_right _ hn)) j t d (by simpa using ht) (by simpa using hd)
theorem Wt.part {t : TypeId} {fs : Array Field} {ds : List (DataW H)} (hu : Tryz.prog.underlying t = some (.struct fs)) (h : Wt t (.agg ds)) (j : Nat) {u : TypeId} {d : DataW H} (ht : (fs.toList.map (·.type))[j]? = some u) (hd : ds[j]? = some d) : Wt u d := by
  unfold Wt at h
  rw [DataW.weights, hu] at h
  exact Wt.each h j u d ht hd
theorem Wt.all {e : TypeId} {ds : List (DataW H)} (h : ∀ n ∈ DataW.weightsAll Tryz.prog e ds, n ≤ reachBytes) : ∀ d ∈ ds, Wt e d := by
  induction ds with
  | nil => intro d hd; cases hd
  | cons d0 ds ih =>
    rw [DataW.weightsAll] at h
    intro d hd
    rcases List.mem_cons.1 hd with rfl | hd
    · exact fun n hn => h n (List.mem_append_left _ hn)
    · exact ih (fun n hn => h n (List.mem_append_right _ hn)) d hd
theorem Wt.slice {t e : TypeId} {elems spare : List (DataW H)} (hu : Tryz.prog.underlying t = some (.slice e)) (h : Wt t (.slice elems spare)) : (elems.length + spare.length) * Tryz.prog.bytesOf e ≤ 140737488351232 ∧ ∀ d ∈ elems, Wt e d := by
  unfold Wt at h
  rw [DataW.weights, hu] at h
  exact ⟨h _ List.mem_cons_self, Wt.all fun n hn => h n (List.mem_cons_of_mem _ (List.mem_append_left _ hn))⟩
theorem Wt.string {t : TypeId} {l : List UInt8} (h : Wt t (.lit (.string l) : DataW H)) : l.length ≤ 140737488351232 := h _ (by rw [DataW.weights]; simp)
end

/-! ### An argument's address is a plain one -/
theorem spot_of_ok {W : World} {base len cap : Nat} {t e : TypeId} {a : Addr} (ht : Tryz.prog.underlying t = some (.slice e)) (h : Cell.okWide Tryz.prog W .any base t (.slice (some a) len cap)) : a.spot = none := by
  unfold Cell.okWide at h
  rw [ht] at h
  unfold Cell.ok at h
  rw [ht] at h
  exact h.2.2.2.1
theorem ok_part {W : World} {base : Nat} {t u : TypeId} {fs : Array Field} {cs : Array Value} {ts : List TypeId} (hs : Tryz.prog.underlying t = some (.struct fs)) (hts : Tryz.prog.cellTypes Tryz.prog.depth t = some ts) (h : Value.okWide Tryz.prog W .any base t (.agg cs)) {i : Nat} {v : Value} (hi : cs[i]? = some v) (hu : ts[i % ts.length]? = some u) : Cell.okWide Tryz.prog W .any base u v := by
  unfold Value.okWide at h
  rw [hs] at h
  obtain ⟨cs', e, _, ts', h1, _, h2⟩ := h
  injection e with e
  subst e
  obtain rfl := Option.some.inj (hts.symm.trans h1)
  obtain ⟨u', h3, h4⟩ := h2 i v hi
  obtain rfl := Option.some.inj (hu.symm.trans h3)
  exact h4

section
variable {H : Type} {enc : TypeId × Value → H} {W : World}
theorem int_u8 {n : Int} (h : (Lit.int .u8 n).wf = true) : ∃ c : UInt8, n = (c.toNat : Int) := by
  have h2 : 0 ≤ n ∧ n ≤ 255 := by simpa [Lit.wf, IntKind.min, IntKind.max, IntKind.bits, IntKind.signed] using h
  refine ⟨UInt8.ofNat n.toNat, ?_⟩
  simp
  omega
theorem ints_u8 : ∀ (zs : List Int), (∀ n ∈ zs, (Lit.int .u8 n).wf = true) → ∃ l : List UInt8, zs = l.map fun c => (c.toNat : Int)
  | [], _ => ⟨[], rfl⟩
  | n :: r, h => by
    obtain ⟨c, hc⟩ := int_u8 (h n (by simp))
    obtain ⟨l, hl⟩ := ints_u8 r (fun x hx => h x (by simp [hx]))
    exact ⟨c :: l, by rw [hc, hl]; rfl⟩
/-- A slice of bytes, as data. -/
theorem open_bytes {fuel : Nat} {v : Value} {x : DataW H × List MemPlace} (h : DataW.trod enc Tryz.prog W 0 (fun _ => true) true fuel 33 [v] = some x) (hw : Wt 33 x.1) : ∃ l : List UInt8, IsBytes W v l ∧ l.length ≤ 140737488351232 := by
  rcases open_ints Tryz.underlying33 Tryz.underlying5 (by kernel_rfl) h with ⟨hcs, hx⟩ | ⟨a, len, cap, zs, hcs, hb, hl, hm, hz, hx, hc, hwz⟩
  · injection hcs with hcs
    exact ⟨[], .inl ⟨hcs, rfl⟩, by simp⟩
  · injection hcs with hcs
    simp only [if_true] at hz
    obtain ⟨l, hl8⟩ := ints_u8 zs hwz
    have hll : l.length = cap := by rw [hl8] at hz; simpa using hz
    refine ⟨l.take len, .inr ⟨a, cap, ?_, fun i hi => ?_⟩, ?_⟩
    · rw [hcs, List.length_take, hll, Nat.min_eq_left hl]
    · rw [List.length_take] at hi
      rw [hc i (by omega), hl8, List.getElem_take]
      simp [List.getD, show i < l.length by omega]
    · rw [hx] at hw
      have := (Wt.slice Tryz.underlying33 hw).1
      have e : Tryz.prog.bytesOf 5 = 1 := by kernel_rfl
      rw [e] at this
      simp [lits] at this
      rw [List.length_take]
      omega
theorem choose_list {α : Type} {p : Nat → α → Prop} : ∀ (n : Nat), (∀ i, i < n → ∃ x, p i x) → ∃ l : List α, l.length = n ∧ ∀ i (h : i < l.length), p i l[i] := by
  intro n
  induction n with
  | zero => intro _; exact ⟨[], rfl, fun i h => by simp at h⟩
  | succ n ih =>
    intro h
    obtain ⟨l, h1, h2⟩ := ih (fun i hi => h i (by omega))
    obtain ⟨x, hx⟩ := h n (by omega)
    refine ⟨l ++ [x], by simp [h1], fun i hi => ?_⟩
    by_cases hl : i < l.length
    · rw [List.getElem_append_left hl]; exact h2 i hl
    · have : i = l.length := by simp at hi; omega
      subst this
      rw [List.getElem_append_right (Nat.le_refl _)]
      simp only [Nat.sub_self, List.getElem_cons_zero]
      rw [h1]; exact hx
/-- Slices of bytes, as data. -/
theorem open_cells {fuel : Nat} {v : Value} {x : DataW H × List MemPlace} (h : DataW.trod enc Tryz.prog W 0 (fun _ => true) true fuel 23 [v] = some x) (hw : Wt 23 x.1) : ∃ Ls : List (List UInt8), IsCells W v Ls ∧ (∀ l ∈ Ls, l.length ≤ 140737488351232) ∧ Ls.length ≤ 140737488351232 := by
  rcases Deep.open_slice1 Tryz.underlying23 (by kernel_rfl) h with ⟨hcs, hx⟩ | ⟨a, len, cap, m, n, V, D, Pl, hcs, hb, hl, hm, hmm, hx, hc⟩
  · injection hcs with hcs
    exact ⟨[], .inl ⟨hcs, rfl⟩, by simp, by simp⟩
  · injection hcs with hcs
    rw [if_pos rfl] at hmm
    rw [hx] at hw
    obtain ⟨w1, w2⟩ := Wt.slice Tryz.underlying23 hw
    obtain ⟨Ls, h1, h2⟩ := choose_list (p := fun i l => IsBytes W (V i) l ∧ l.length ≤ 140737488351232) len (fun i hi => open_bytes (hc i (by omega)).2 (w2 _ (List.mem_map.2 ⟨i, List.mem_range.2 hi, rfl⟩)))
    refine ⟨Ls, .inr ⟨a, cap, by rw [hcs, h1], fun k hk => ⟨V k, (hc k (by omega)).1, (h2 k hk).1⟩⟩, fun l hl2 => ?_, ?_⟩
    · obtain ⟨i, hi, rfl⟩ := List.getElem_of_mem hl2
      exact (h2 i hi).2
    · have e : Tryz.prog.bytesOf 33 = 24 := by kernel_rfl
      rw [e] at w1
      simp at w1
      omega
/-- Ints, as data: with a plain address. -/
theorem open_intsP {fuel base : Nat} {v : Value} {x : DataW H × List MemPlace} (h : DataW.trod enc Tryz.prog W 0 (fun _ => true) true fuel 22 [v] = some x) (hok : Cell.okWide Tryz.prog W .any base 22 v) (hw : Wt 22 x.1) : ∃ l : List Int, IsInts W v l ∧ l.length ≤ 140737488351232 ∧ ∀ n ∈ l, (Lit.int .i64 n).wf = true := by
  rcases open_ints Tryz.underlying22 Tryz.underlying3 (by kernel_rfl) h with ⟨hcs, hx⟩ | ⟨a, len, cap, zs, hcs, hb, hl, hm, hz, hx, hc, hwz⟩
  · injection hcs with hcs
    exact ⟨[], .inl ⟨hcs, rfl⟩, by simp, by simp⟩
  · injection hcs with hcs
    subst hcs
    simp only [if_true] at hz
    have hs := spot_of_ok Tryz.underlying22 hok
    obtain ⟨b, o, s⟩ := a
    simp only at hs
    subst hs
    refine ⟨zs.take len, .inr ⟨b, o, cap, ?_, fun i hi => ?_⟩, ?_, fun n hn => hwz n (List.mem_of_mem_take hn)⟩
    · rw [List.length_take, hz, Nat.min_eq_left hl]
    · rw [List.length_take] at hi
      have := hc i (by omega)
      rw [Addr.add_lit] at this
      rw [this, List.getElem_take]
      simp [List.getD, show i < zs.length by omega]
    · rw [hx] at hw
      have := (Wt.slice Tryz.underlying22 hw).1
      have e : Tryz.prog.bytesOf 3 = 8 := by kernel_rfl
      rw [e] at this
      simp [lits] at this
      rw [List.length_take]
      omega
end

end Go.Proofs.YthbofddadgmghaaGreatDoor
