/- A range over strings.SplitSeq(s, "."): the iterator writes the variable that it has captured: the law of a range over a function, so that it abides one block more; and the package addr's IsDomain. -/
import Derived.Test.YthbofddadgmghaaGreatDoorA3
import Derived.RangeFuncNested
import Derived.RangeFuncBound
import Derived.RangeFuncCalls
import Derived.RangeFuncLeaves
import Derived.RangeFuncFrom
import Derived.Shelf.Abstract
import Derived.OwnWalkIn
import Derived.TacticsInMore
import Derived.LoopNIn
import Derived.LoopIn
set_option linter.unusedVariables false
set_option linter.unusedSimpArgs false
namespace Go.Proofs.YthbofddadgmghaaGreatDoor
open Go.RowKit Go.Shelf
attribute [local go_sem] Oper.semAt_some

/-- What is told of the world abides that block X is written. -/
def AbidesAt {β : Type} (X : Nat) (I : β → World → Prop) : Prop := ∀ s A B, I s A → A.grownBy B (some X) → I s B
/-- An iterator that writes block X alone, between rounds that keep Kp. -/
def SeqAt {α : Type} (F : Fence) (n : Nat) (P : Program) (g : Nat) (lb : Array Value) (encs : α → Array Value) (Ok : α → Prop) (Kp : World → World → Prop) (S Sp : List α → Prop) (N X : Nat) (w : World) : Prop :=
  ∀ (l : Nat) (J Jx : List α → World → Prop) (W : World), Below w.heap.size w W → AbidesAt X J → AbidesAt X Jx →
    (∀ pre x W1, Ok x → J pre W1 → pre.length < N → YieldAt F (n - 1) P l (encs x) W1 fun e W' =>
      (e = .returned (.bool true) ∧ J (pre ++ [x]) W' ∧ Kp W1 W') ∨ (e = .returned (.bool false) ∧ Jx (pre ++ [x]) W')) →
    J [] W →
    CallsIn F n P g (#[.func (.yield l) #[] #[]] ++ lb) W fun e W' => (∃ v, e = .returned v) ∧ ((∃ xs, S xs ∧ J xs W') ∨ (∃ pre, Sp pre ∧ Jx pre W'))

theorem grownBy_at {A B : World} {X k : Nat} (h : A.grownBy B (some X)) (hk : k ≠ X) {o : Obj} (ho : A.heap[k]? = some o) : B.heap[k]? = some o := by
  rw [h.block k (Array.getElem?_eq_some_iff.1 ho).1 (fun e => hk (by cases e; rfl))]; exact ho

theorem range_at {F : Fence} {n : Nat} {P : Program} {α : Type} {g : Operand} {ps : Array Tmp} {assign body : Code} {Q : Exit → Act → World → Prop} {a : Act} {w : World}
    (hro : F.round = none) (h1 : 1 ≤ n) {gf : Nat} {lb : Array Value} (hg : a.eval g = .func (.func gf) #[] lb) (hFg : F.fn gf) (eg : ∀ args w, (callFunc gf args).run P w = .ok (.enter gf args) w)
    {encs : α → Array Value} {Ok : α → Prop} {Kp : World → World → Prop} {S Sp : List α → Prop} {N X : Nat} {w0 : World} (hX : X < w.heap.size) (hseq : SeqAt F (n - 1) P gf lb encs Ok Kp S Sp N X w0)
    (hKt : ∀ {A B C : World}, Kp A B → Kp B C → Kp A C) (hKb : ∀ (W : World) (l : Nat) (o o' : Obj), w.heap.size ≤ l → W.heap[l]? = some o → o.isCells = false → o.isWalk = false → Kp W (W.putObj l o')) (hb0 : Below w0.heap.size w0 w) (hps : ∀ x, (encs x).size = ps.size)
    (I : List α → World → Prop) (Ix : Code → List α → World → Prop) (hI : OwnFrom w.heap.size I) (hIx : ∀ c, OwnFrom w.heap.size (Ix c)) (hI2 : AbidesAt X I) (hIx2 : ∀ c, AbidesAt X (Ix c)) (h0 : I [] w) (a₁ : α → Act)
    (hassign : ∀ (l : Nat) (x : α) (W : World) (K : Act → World → Prop), K (a₁ x) W →
      assign.wpIn (F.inRound l) (n - 1 - 1) P (Exit.then K (fun _ _ _ => False)) { tmps := (ps.zip (encs x)).foldl (fun t (p, v) => t.setIfInBounds p v) a.tmps, defers := [] } W)
    (hbody : ∀ (l : Nat) (pre : List α) (x : α) (W : World), Ok x → I pre W → pre.length < N → body.wpIn (F.inRound l) (n - 1 - 1) P (ownPostK Kp I Ix (pre ++ [x]) W) (a₁ x) W)
    (hdone : ∀ (D : Nat) (xs : List α) (W : World), w.heap.size ≤ D → S xs → I xs W → W.heap[D]? = some (.deferred (some [])) → Q .normal { a with defers := { target := .collected D, args := #[] } :: a.defers } W)
    (hstop : ∀ (D : Nat) (c : Code) (pre : List α) (W : World), w.heap.size ≤ D → Sp pre → Ix c pre W → W.heap[D]? = some (.deferred (some [])) → c.wpIn F n P Q { a with defers := { target := .collected D, args := #[] } :: a.defers } W) :
    (Code.rangeFunc g ps assign body).wpIn F n P Q a w := by
  refine wpIn_rangeFunc ?_
  intro fn hfn
  rw [hro]
  obtain ⟨rec, hrec⟩ : ∃ rec : LoopState → Option Code → Loop, rec = fun st pe => { state := st, pending := pe, fn, tmps := a.tmps, params := ps, assign, body, defers := w.heap.size } := ⟨_, rfl⟩
  obtain ⟨W1, hW1⟩ : ∃ W1, (w.alloc (.deferred (some []))).alloc (.loop (rec .ready none)) = W1 := ⟨_, rfl⟩
  have hL1 : W1.heap[w.heap.size + 1]? = some (.loop (rec .ready none)) := by
    rw [← hW1]; have := World.alloc_heap_new (w.alloc (.deferred (some []))) (.loop (rec .ready none)); rwa [World.size_alloc] at this
  have hK1 : W1.heap[w.heap.size]? = some (.deferred (some [])) := by
    rw [← hW1]; exact (Below.heap_alloc _ _ _ (by simp)).trans (World.alloc_heap_new w _)
  have hI1 : I [] W1 := by rw [← hW1]; exact hI.alloc _ (hI.alloc _ h0)
  have hb1 : Below w0.heap.size w0 W1 := by
    rw [← hW1]; exact hb0.trans ((((Below.refl _ w).alloc (Nat.le_refl _) _).alloc (by simp) _).mono hb0.size)
  refine ⟨w.heap.size + 1, [{ target := .collected w.heap.size, args := #[] }], W1, { target := .fn (.func gf) lb, args := #[.func (.yield (w.heap.size + 1)) #[] #[]] }, W1, gf,
    #[.func (.yield (w.heap.size + 1)) #[] #[]] ++ lb, W1, ?_, ?_, ?_, ?_, fun _ => h1, ?_⟩
  · rw [← hW1, hrec]; exact run_enterLoop_outer _ _ _ _ _
  · simp only [resolve, hg]
    simp [go_sem]
  · intro f' hf'; simp [Target.leads] at hf'; subst hf'; exact hFg
  · simp [invoke, go_sem, eg]
  · refine (hseq (w.heap.size + 1)
      (fun pre W => I pre W ∧ W.heap[w.heap.size + 1]? = some (.loop (rec .ready none)) ∧ W.heap[w.heap.size]? = some (.deferred (some [])))
      (fun pre W => ∃ c, Ix c pre W ∧ W.heap[w.heap.size + 1]? = some (.loop (rec .done (some c))) ∧ W.heap[w.heap.size]? = some (.deferred (some [])))
      W1 hb1
      (fun s A B hs hg' => ⟨hI2 s A B hs.1 hg', grownBy_at hg' (by omega) hs.2.1, grownBy_at hg' (by omega) hs.2.2⟩)
      (fun s A B hs hg' => by
        obtain ⟨c, hc, hl, hk⟩ := hs
        exact ⟨c, hIx2 c s A B hc hg', grownBy_at hg' (by omega) hl, grownBy_at hg' (by omega) hk⟩)
      ?_ ⟨hI1, hL1, hK1⟩).mono ?_
    · rintro pre x W hOk ⟨hi, hl, hk⟩ hlen
      have hlt : w.heap.size + 1 < W.heap.size := (Array.getElem?_eq_some_iff.1 hl).1
      have hy := run_yield (P := P) (args := encs x) hl (by rw [hrec]; exact hps x)
      rw [hrec] at hy
      refine ⟨fn, _, assign, body, hy, roundIn_of_wpIn hfn (hassign _ x W _ ⟨_, run_beginRound hl (by rw [hrec]), ?_⟩)⟩
      have hl2 : (W.putObj (w.heap.size + 1) (.loop { rec .ready none with state := .busy })).heap[w.heap.size + 1]? = some (.loop { rec .ready none with state := .busy }) := World.putObj_heap_same hlt
      have hk2 : (W.putObj (w.heap.size + 1) (.loop { rec .ready none with state := .busy })).heap[w.heap.size]? = some (.deferred (some [])) := (World.putObj_heap_other (by omega)).trans hk
      have hw2 : Kp W (W.putObj (w.heap.size + 1) (.loop { rec .ready none with state := .busy })) := hKb _ _ _ _ (by omega) hl rfl rfl
      refine wpIn_mono (hbody _ pre x _ hOk (hI.putObj _ hi (by omega) hl rfl) hlen) ?_
      have fin : ∀ (jump : Option Code) (W3 : World), KeepsOthers (W.putObj (w.heap.size + 1) (.loop { rec .ready none with state := .busy })) W3 →
          (Instr.endRound (w.heap.size + 1) jump).run P W3 = .ok (.bool jump.isNone) (W3.putObj (w.heap.size + 1) (.loop (rec (if jump.isNone then .ready else .done) jump))) ∧
          W3.heap[w.heap.size + 1]? = some (.loop { rec .ready none with state := .busy }) ∧
          (W3.putObj (w.heap.size + 1) (.loop (rec (if jump.isNone then .ready else .done) jump))).heap[w.heap.size + 1]? = some (.loop (rec (if jump.isNone then .ready else .done) jump)) ∧
          (W3.putObj (w.heap.size + 1) (.loop (rec (if jump.isNone then .ready else .done) jump))).heap[w.heap.size]? = some (.deferred (some [])) := fun jump W3 hk3 => by
        have hl3 := hk3.same _ _ hl2 rfl
        have := run_endRound (P := P) jump hl3
        rw [hrec] at this ⊢
        exact ⟨this, by rw [hrec] at hl3; exact hl3, World.putObj_heap_same (Array.getElem?_eq_some_iff.1 hl3).1, (World.putObj_heap_other (by omega)).trans (hk3.same _ _ hk2 rfl)⟩
      rintro e a3 W3 hp
      cases e with
      | normal =>
        obtain ⟨hk3, hkp3, hi3⟩ := hp
        obtain ⟨hr, hl3, hl4, hk4⟩ := fin none W3 hk3
        exact ⟨_, _, hr, .inl ⟨rfl, ⟨hI.putObj _ hi3 (by omega) hl3 rfl, hl4, hk4⟩, hKt (hKt hw2 hkp3) (hKb _ _ _ _ (by omega) hl3 rfl rfl)⟩⟩
      | ret =>
        obtain ⟨hk3, hi3⟩ := hp
        obtain ⟨hr, hl3, hl4, hk4⟩ := fin (some .ret) W3 hk3
        exact ⟨_, _, hr, .inr ⟨rfl, .ret, (hIx _).putObj _ hi3 (by omega) hl3 rfl, hl4, hk4⟩⟩
      | exit id =>
        obtain ⟨hk3, hi3⟩ := hp
        obtain ⟨hr, hl3, hl4, hk4⟩ := fin (some (.exit id)) W3 hk3
        exact ⟨_, _, hr, .inr ⟨rfl, .exit id, (hIx _).putObj _ hi3 (by omega) hl3 rfl, hl4, hk4⟩⟩
      | goto t =>
        obtain ⟨hk3, hi3⟩ := hp
        obtain ⟨hr, hl3, hl4, hk4⟩ := fin (some (.goto t)) W3 hk3
        exact ⟨_, _, hr, .inr ⟨rfl, .goto t, (hIx _).putObj _ hi3 (by omega) hl3 rfl, hl4, hk4⟩⟩
      | panic ch => exact hp.elim
      | outgrown => exact hp.elim
    · rintro e W2 ⟨⟨v, rfl⟩, (⟨xs, hS, hi, hl, hk⟩ | ⟨pre, hSp, c, hi, hl, hk⟩)⟩
      · exact ⟨none, _, by have := run_endLoop (P := P) hl (by rw [hrec]; simp); rw [hrec] at this; exact this, hdone _ xs _ (Nat.le_refl _) hS (hI.putObj _ hi (by omega) hl rfl) ((World.putObj_heap_other (by omega)).trans hk)⟩
      · exact ⟨some c, _, by have := run_endLoop (P := P) hl (by rw [hrec]; simp); rw [hrec] at this; exact this, hstop _ c pre _ (Nat.le_refl _) hSp ((hIx c).putObj _ hi (by omega) hl rfl) ((World.putObj_heap_other (by omega)).trans hk)⟩

/-! ### the parts of a text between dots -/
def dots : List UInt8 → List (List UInt8)
  | [] => [[]]
  | c :: r => if c = 46 then [] :: dots r else match dots r with
    | [] => [[c]]
    | h :: t => (c :: h) :: t
theorem dots_ne (l : List UInt8) : dots l ≠ [] := by
  cases l with
  | nil => simp [dots]
  | cons c r =>
    rw [dots]
    split
    · simp
    · split <;> simp
theorem dots_miss : ∀ (l : List UInt8), Lib.indexByte l 46 < 0 → dots l = [l]
  | [], _ => rfl
  | c :: r, h => by
    rw [Lib.indexByte] at h
    by_cases hc : c = 46
    · rw [if_pos (by simpa using hc)] at h; omega
    · rw [if_neg (by simpa using hc)] at h
      have hr : Lib.indexByte r 46 < 0 := by
        split at h
        · rename_i h'; simp at h'; omega
        · have := Lib.indexByte_ge r 46; omega
      rw [dots, if_neg hc, dots_miss r hr]
theorem dots_hit : ∀ (l : List UInt8) (i : Nat), Lib.indexByte l 46 = (i : Int) → i < l.length ∧ dots l = l.take i :: dots (l.drop (i + 1))
  | [], i, h => by rw [Lib.indexByte] at h; omega
  | c :: r, i, h => by
    rw [Lib.indexByte] at h
    by_cases hc : c = 46
    · rw [if_pos (by simpa using hc)] at h
      obtain rfl : i = 0 := by omega
      exact ⟨by simp, by rw [dots, if_pos hc]; rfl⟩
    · rw [if_neg (by simpa using hc)] at h
      split at h
      · omega
      · rename_i h'
        have hge := Lib.indexByte_ge r 46
        have hne : Lib.indexByte r 46 ≠ -1 := by simpa using h'
        obtain ⟨j, rfl⟩ : ∃ j, i = j + 1 := ⟨i - 1, by omega⟩
        obtain ⟨h1, h2⟩ := dots_hit r j (by omega)
        exact ⟨by simp; omega, by rw [dots, if_neg hc, h2]; rfl⟩
theorem dots_sizes : ∀ (l : List UInt8), ∀ x ∈ dots l, x.length ≤ l.length
  | [], x, h => by simp [dots] at h; subst h; simp
  | c :: r, x, h => by
    rw [dots] at h
    by_cases hc : c = 46
    · rw [if_pos hc] at h
      rcases List.mem_cons.1 h with rfl | h
      · simp
      · have := dots_sizes r x h; simp; omega
    · rw [if_neg hc] at h
      have ih := dots_sizes r
      cases hd : dots r with
      | nil => exact absurd hd (dots_ne r)
      | cons y t =>
        rw [hd] at h ih
        simp only at h
        rcases List.mem_cons.1 h with rfl | h
        · have := ih y (by simp); simp; omega
        · have := ih x (by simp [h]); simp; omega

set_option maxRecDepth 100000 in
set_option maxHeartbeats 2000000 in
theorem splitSeq1_in (n : Nat) (hn : 1 ≤ n) (l Bp Bs Bv : Nat) (hps : Bp ≠ Bs) (hvs : Bv ≠ Bs) (n₀ : Nat) (hp0 : Bp < n₀) (hs0 : Bs < n₀) (hv0 : Bv < n₀) (s : List UInt8) (hsz : s.length ≤ 1073741824) (J Jx : List (List UInt8) → World → Prop) (hJ : AbidesAt Bs J)
    (hY : ∀ pre x W1, x.length ≤ 1073741824 → J pre W1 → pre.length < (dots s).length → YieldAt Fence.wide (n - 1) Tryz.prog l #[.string (str x)] W1 fun e W' =>
      (e = .returned (.bool true) ∧ J (pre ++ [x]) W' ∧ Below n₀ W1 W') ∨ (e = .returned (.bool false) ∧ Jx (pre ++ [x]) W'))
    (W : World) (hp : W.cell? ⟨Bp, 0, none⟩ = some (.string (str [46]))) (hs : W.cell? ⟨Bs, 0, none⟩ = some (.string (str s))) (hf : W.frozen? ⟨Bs, 0, none⟩ = false) (hv : W.cell? ⟨Bv, 0, none⟩ = some (.int .i64 0)) (h0 : J [] W) :
    CallsIn Fence.wide n Tryz.prog 285 #[.func (.yield l) #[] #[], .pointer (some ⟨Bp, 0, none⟩), .pointer (some ⟨Bs, 0, none⟩), .pointer (some ⟨Bv, 0, none⟩)] W fun e W' => (∃ v, e = .returned v) ∧
      ((∃ xs, xs = dots s ∧ J xs W') ∨ (∃ pre, pre <+: dots s ∧ Jx pre W')) := by
  refine callsIn_of_wp Tryz.func285 rfl trivial ?_ rfl
  simp only [Tryz.ntmps285, List.size_toArray, List.length_cons, List.length_nil, Nat.reduceAdd, Nat.reduceSub, Array.replicate_succ, Array.replicate_zero, List.push_toArray, List.append_toArray, List.nil_append, List.cons_append]
  gi_wp2
  gi_loopw [7] (fun _ wr => ∃ (pre : List (List UInt8)) (rest : List UInt8), Hid (pre ++ dots rest = dots s) ∧ rest.length ≤ s.length ∧ wr.cell? ⟨Bs, 0, none⟩ = some (.string (str rest)) ∧ wr.frozen? ⟨Bs, 0, none⟩ = false ∧ wr.cell? ⟨Bp, 0, none⟩ = some (.string (str [46])) ∧ wr.cell? ⟨Bv, 0, none⟩ = some (.int .i64 0) ∧ J pre wr)
    (fun _ wr => match wr.cell? ⟨Bs, 0, none⟩ with | some (.string x) => x.size | _ => 0)
  case atStart => exact ⟨[], s, rfl, Nat.le_refl _, hs, hf, hp, hv, h0⟩
  case round =>
    clear hs hf hp hv h0
    obtain ⟨pre, rest, HP, hr, hs, hf, hp, hv, hj⟩ := hrel
    have hix := Tryz.strings_Index_one (str rest) 46 wr
    have hlen : pre.length < (dots s).length := by
      have h1 := HP.out
      have h2 := List.length_pos_iff.2 (dots_ne rest)
      have h3 := congrArg List.length h1
      rw [List.length_append] at h3
      omega
    by_cases hm : Lib.indexByte rest 46 < 0
    · have h1 : Lib.indexByte rest 46 = -1 := by have := Lib.indexByte_ge rest 46; omega
      have hd := dots_miss rest hm
      rw [show (str rest).data.toList = rest from rfl, h1] at hix
      obtain ⟨fn, tmps, assign, body, hy, hR⟩ := hY pre rest wr (by omega) hj hlen
      have HD := Lib.hid hd
      clear hd h1 hm
      gi_wp2_with fail
      refine ⟨trivial, (callsIn_wide.2 hix).mono ?_⟩
      rintro e w' ⟨rfl, hw⟩
      obtain rfl := hw.symm
      gi_wp2_with fail
      refine hR.mono ?_
      rintro e W3 (⟨rfl, hJ3, hk3⟩ | ⟨rfl, hJx3⟩)
      · gi_wp2
        go_end0
        exact ⟨⟨_, rfl⟩, .inl ⟨_, by rw [← HP.out, HD.out], hJ3⟩⟩
      · gi_wp2
        go_end0
        exact ⟨⟨_, rfl⟩, .inr ⟨_, by rw [← HP.out, HD.out]; exact List.prefix_rfl, hJx3⟩⟩
    · obtain ⟨i, h1⟩ : ∃ i : Nat, Lib.indexByte rest 46 = (i : Int) := ⟨_, (Int.toNat_of_nonneg (by omega)).symm⟩
      obtain ⟨hi, hd⟩ := dots_hit rest i h1
      rw [show (str rest).data.toList = rest from rfl, h1] at hix
      obtain ⟨fn, tmps, assign, body, hy, hR⟩ := hY pre (rest.take i) wr (by rw [List.length_take]; omega) hj hlen
      have hx : str (rest.take i) = (str rest).extract 0 i := bl_inj (by rw [bl_extract]; simp [bl_str])
      have hx2 : (str rest).extract (i + 1) (str rest).size = str (rest.drop (i + 1)) := extract_end _ _
      rw [hx] at hy
      have HD := Lib.hid hd
      clear hd h1 hm hx
      gi_wp2_with fail
      refine ⟨trivial, (callsIn_wide.2 hix).mono ?_⟩
      rintro e w' ⟨rfl, hw⟩
      obtain rfl := hw.symm
      gi_wp2_with fail
      refine hR.mono ?_
      rintro e W3 (⟨rfl, hJ3, hk3⟩ | ⟨rfl, hJx3⟩)
      · have hs3 := (hk3.cell (p := ⟨Bs, 0, none⟩) hs0).trans hs
        have hf3 := (hk3.frozen (p := ⟨Bs, 0, none⟩) hs0).trans hf
        have hp3 := (hk3.cell (p := ⟨Bp, 0, none⟩) hp0).trans hp
        have hv3 := (hk3.cell (p := ⟨Bv, 0, none⟩) hv0).trans hv
        have hsz2 : i + 1 ≤ rest.length := by omega
        have HS0 := Lib.hid hs
        clear hs hf hp hv hj
        gi_wp2
        go_roundw
        case rel =>
          refine ⟨pre ++ [rest.take i], rest.drop (i + 1), ?_, by simp; omega, ?_, ?_, ?_, ?_, ?_⟩
          · show _ = _
            rw [← HP.out, HD.out]
            simp
          · rw [World.cell?_setCell_same' _ _ _ (by rw [hs3]; rfl), ← hx2]
            rw [str_size]
          · rw [World.frozen?_setCell]; exact hf3
          · rw [World.cell?_setCell_other _ _ _ _ (by intro h; cases h; exact hps rfl)]; exact hp3
          · rw [World.cell?_setCell_other _ _ _ _ (by intro h; cases h; exact hvs rfl)]; exact hv3
          · exact hJ _ _ _ hJ3 ⟨rfl, rfl, rfl, by simp [World.setCell], fun k _ hne => Below.heap_setCell _ _ _ _ (fun e => hne (by rw [e]))⟩
        case measure =>
          have e1 := World.cell?_setCell_same' W3 ⟨Bs, 0, none⟩ (.string ((str rest).extract (i + 1) rest.length)) (by rw [hs3]; rfl)
          rw [e1, HS0.out]
          simp only [ByteArray.size_extract, str_size]
          omega
      · gi_wp2
        refine bodyPost_ret (results_none rfl _ _ _) rfl ?_
        exact ⟨⟨_, rfl⟩, .inr ⟨_, by rw [← HP.out, HD.out]; exact ⟨dots (rest.drop (i + 1)), by simp⟩, hJx3⟩⟩

theorem cellNew (W : World) (v : Value) (t : TypeId) : (W.alloc (.cells #[v] t)).cell? ⟨W.heap.size, 0, none⟩ = some v ∧ (W.alloc (.cells #[v] t)).frozen? ⟨W.heap.size, 0, none⟩ = false := by
  refine ⟨by rw [cell_alloc_new]; rfl, ?_⟩
  unfold World.frozen?
  rw [heap_alloc_new]
  simp
theorem belowAlloc (W : World) (o : Obj) : Below W.heap.size W (W.alloc o) := (Below.refl _ W).alloc (Nat.le_refl _) o
theorem cellOld {W : World} {a : Addr} {v : Value} (o : Obj) (h : W.cell? a = some v) : (W.alloc o).cell? a = some v := ((belowAlloc W o).cell (World.block_lt_of_cell? W a h)).trans h
theorem frozOld {W : World} {a : Addr} {v : Value} (o : Obj) (h : W.cell? a = some v) (hf : W.frozen? a = false) : (W.alloc o).frozen? a = false := ((belowAlloc W o).frozen (World.block_lt_of_cell? W a h)).trans hf
def splitFn (b : Nat) : Value := .func (.func 285) #[] #[.pointer (some ⟨b + 1, 0, none⟩), .pointer (some ⟨b, 0, none⟩), .pointer (some ⟨b + 1 + 1, 0, none⟩)]
def splitWorld (w : World) (s sep : ByteArray) : World := ((w.alloc (.cells #[.string s] 9)).alloc (.cells #[.string sep] 9)).alloc (.cells #[.int .i64 0] 3)
set_option maxHeartbeats 400000 in
theorem SplitSeq_c (s sep : ByteArray) (w : World) : Calls Tryz.prog 216 #[.string s, .string sep] w fun e w' => e = .returned (splitFn w.heap.size) ∧ w' = splitWorld w s sep := by
  go_enter Tryz.func216, Tryz.ntmps216
  go_wp2
  go_ret
  exact ⟨rfl, rfl⟩

def prefB (p s : List UInt8) : Bool := Lib.hasPrefix s p
def suffB (p s : List UInt8) : Bool := Lib.hasSuffix s p
theorem HasPrefix_c (s p : ByteArray) (w : World) : Calls Tryz.prog 141 #[.string s, .string p] w fun e w' => e = .returned (.bool (prefB (bl p) (bl s))) ∧ w = w' :=
  (Tryz.strings_HasPrefix s p w).mono fun e w' ⟨he, hw⟩ => ⟨he, hw.symm⟩
theorem HasSuffix_c (s p : ByteArray) (w : World) (hs : s.size ≤ 9223372036854775807) : Calls Tryz.prog 142 #[.string s, .string p] w fun e w' => e = .returned (.bool (suffB (bl p) (bl s))) ∧ w = w' :=
  (Tryz.strings_HasSuffix s p w hs).mono fun e w' ⟨he, hw⟩ => ⟨he, hw.symm⟩
set_option maxHeartbeats 400000 in
theorem IsLiteral_c (s : ByteArray) (w : World) : Calls Tryz.prog 214 #[.string s] w fun e w' => e = .returned (.bool (prefB [91] (bl s))) ∧ w = w' := by
  go_enter Tryz.func214, Tryz.ntmps214
  go_wp2_with (go_at_call 141; refine (HasPrefix_c _ _ _).mono ?_; rintro e w' ⟨rfl, rfl⟩)
  go_ret
  exact ⟨rfl, rfl⟩

def isDomainB (s : ByteArray) : Bool := if prefB [91] (bl s) then suffB [93] (bl s) && literalB (s.extract 1 (s.size - 1)) else (dots (bl s)).all labelB && decide (s.size ≤ 255)

set_option maxRecDepth 100000 in
set_option maxHeartbeats 2000000 in
theorem IsDomain_in (n : Nat) (hn : 4 ≤ n) (s : ByteArray) (w : World) (hE : Env w) (hs : s.size ≤ 1073741824) (hp : prefB [91] (bl s) = false) :
    CallsIn Fence.wide n Tryz.prog 156 #[.string s] w fun e w' => e = .returned (.bool (isDomainB s)) ∧ Below w.heap.size w w' := by
  have h1 : 1 ≤ n := by omega
  have h2 : 1 ≤ n - 1 - 1 := by omega
  have hlit := fun W => IsLiteral_c s W
  rw [hp] at hlit
  refine callsIn_of_wp_marks Tryz.func156 rfl trivial ?_ rfl
  simp only [Tryz.ntmps156, List.size_toArray, List.length_cons, List.length_nil, Nat.reduceAdd, Nat.reduceSub, Array.replicate_succ, Array.replicate_zero, List.push_toArray, List.append_toArray, List.nil_append, List.cons_append]
  gi_wp2_with fail
  refine ⟨trivial, (callsIn_wide.2 (hlit _)).mono ?_⟩
  rintro e w' ⟨rfl, rfl⟩
  gi_wp2_with fail
  refine ⟨trivial, (callsIn_wide.2 (SplitSeq_c _ _ _)).mono ?_⟩
  rintro e w' ⟨rfl, rfl⟩
  have hsz : (w.alloc (.cells #[.bool false] 4)).heap.size = w.heap.size + 1 := World.size_alloc _ _
  rw [hsz]
  obtain ⟨W0, hW0⟩ : ∃ W0, splitWorld (w.alloc (.cells #[.bool false] 4)) s (str [46]) = W0 := ⟨_, rfl⟩
  have z0 : W0.heap.size = w.heap.size + 1 + 3 := by rw [← hW0]; simp [splitWorld]
  have hB0 : Below w.heap.size w W0 := by
    rw [← hW0]
    exact ((((Below.refl _ w).alloc (Nat.le_refl _) _).alloc (by simp) _).alloc (by simp; omega) _).alloc (by simp; omega) _
  have cR := cellNew w (.bool false) 4
  have c1 := cellNew (w.alloc (.cells #[.bool false] 4)) (.string s) 9
  have c2 := cellNew ((w.alloc (.cells #[.bool false] 4)).alloc (.cells #[.string s] 9)) (.string (str [46])) 9
  have c3 := cellNew (((w.alloc (.cells #[.bool false] 4)).alloc (.cells #[.string s] 9)).alloc (.cells #[.string (str [46])] 9)) (.int .i64 0) 3
  simp only [World.size_alloc] at c1 c2 c3
  have cR' : W0.cell? ⟨w.heap.size, 0, none⟩ = some (.bool false) ∧ W0.frozen? ⟨w.heap.size, 0, none⟩ = false := by
    rw [← hW0]
    exact ⟨cellOld _ (cellOld _ (cellOld _ cR.1)), frozOld _ (cellOld _ (cellOld _ cR.1)) (frozOld _ (cellOld _ cR.1) (frozOld _ cR.1 cR.2))⟩
  have c1' : W0.cell? ⟨w.heap.size + 1, 0, none⟩ = some (.string (str (bl s))) ∧ W0.frozen? ⟨w.heap.size + 1, 0, none⟩ = false := by
    rw [← hW0, str_bl]
    exact ⟨cellOld _ (cellOld _ c1.1), frozOld _ (cellOld _ c1.1) (frozOld _ c1.1 c1.2)⟩
  have c2' : W0.cell? ⟨w.heap.size + 1 + 1, 0, none⟩ = some (.string (str [46])) := by
    rw [← hW0]; exact cellOld _ c2.1
  have c3' : W0.cell? ⟨w.heap.size + 1 + 1 + 1, 0, none⟩ = some (.int .i64 0) := by
    rw [← hW0]; exact c3.1
  change match Ending.returned (splitFn (w.heap.size + 1)), splitWorld (w.alloc (.cells #[.bool false] 4)) s (str [46]) with | _, _ => _
  rw [hW0]
  clear hW0 c1 c2 c3 cR hsz
  gi_wp2_with fail
  refine range_at (α := List UInt8) (w0 := W0) rfl h1 (gf := 285) (lb := #[.pointer (some ⟨w.heap.size + 1 + 1, 0, none⟩), .pointer (some ⟨w.heap.size + 1, 0, none⟩), .pointer (some ⟨w.heap.size + 1 + 1 + 1, 0, none⟩)]) rfl trivial (enters_of Tryz.func285 (by kernel_rfl) rfl)
    (encs := fun x => #[.string (str x)]) (Ok := fun x => x.length ≤ 1073741824) (Kp := Below W0.heap.size) (S := fun xs => xs = dots (bl s)) (Sp := fun pre => pre <+: dots (bl s)) (N := (dots (bl s)).length) (X := w.heap.size + 1) (by omega)
    (fun l J Jx W hW hJ hJx hY h0 => splitSeq1_in (n - 1) (by omega) l _ _ _ (by omega) (by omega) W0.heap.size (by omega) (by omega) (by omega) (bl s) (by rw [bl_length]; exact hs) J Jx hJ hY W
      ((hW.cell (p := ⟨w.heap.size + 1 + 1, 0, none⟩) (show w.heap.size + 1 + 1 < W0.heap.size by omega)).trans c2') ((hW.cell (p := ⟨w.heap.size + 1, 0, none⟩) (show w.heap.size + 1 < W0.heap.size by omega)).trans c1'.1) ((hW.frozen (p := ⟨w.heap.size + 1, 0, none⟩) (show w.heap.size + 1 < W0.heap.size by omega)).trans c1'.2) ((hW.cell (p := ⟨w.heap.size + 1 + 1 + 1, 0, none⟩) (show w.heap.size + 1 + 1 + 1 < W0.heap.size by omega)).trans c3') h0)
    belowK_t (belowK_b (Nat.le_refl _)) (Below.refl _ _) (fun _ => rfl)
    (fun pre W => (pre.all labelB = true ∧ W.cell? ⟨w.heap.size, 0, none⟩ = some (.bool false) ∧ W.frozen? ⟨w.heap.size, 0, none⟩ = false) ∧ Below w.heap.size w W)
    (fun c pre W => (c = .ret ∧ pre.all labelB = false ∧ W.cell? ⟨w.heap.size, 0, none⟩ = some (.bool false)) ∧ Below w.heap.size w W)
    ?hI ?hIx ?hI2 ?hIx2 ⟨⟨rfl, cR'⟩, hB0⟩
    (fun x => { tmps := #[.string s, undef, .pointer (some ⟨w.heap.size, 0, none⟩), .string (str x), .string s, .bool false, undef, undef, undef, undef, undef, undef, undef, undef, undef, undef, .string s, splitFn (w.heap.size + 1), .string (str x), undef, undef, undef, undef, undef, undef], defers := [] }) ?assign ?body ?done ?stop
  case hI => exact OwnFrom.and (Own.from (fun s A B row hs hg hr => ⟨hs.1, cell_kept hs.2.1 hg hr, (frozen_kept hs.2.1 hg hr).trans hs.2.2⟩) _) (ownFrom_below (Nat.le_refl _) (by omega))
  case hIx => exact fun c => OwnFrom.and (Own.from (fun s A B row hs hg hr => ⟨hs.1, hs.2.1, cell_kept hs.2.2 hg hr⟩) _) (ownFrom_below (Nat.le_refl _) (by omega))
  case hI2 =>
    rintro xs A B ⟨⟨h1, h2, h3⟩, h4⟩ hg
    have hb := hg.block w.heap.size (World.block_lt_of_cell? A _ h2) (fun e => by injection e with e; omega)
    exact ⟨⟨h1, (World.cell?_of_block (a := ⟨w.heap.size, 0, none⟩) hb).trans h2, (World.frozen?_of_block (a := ⟨w.heap.size, 0, none⟩) hb).trans h3⟩, h4.grown hg h4.size (fun k e => by injection e with e; omega)⟩
  case hIx2 =>
    rintro c xs A B ⟨⟨h0, h1, h2⟩, h4⟩ hg
    have hb := hg.block w.heap.size (World.block_lt_of_cell? A _ h2) (fun e => by injection e with e; omega)
    exact ⟨⟨h0, h1, (World.cell?_of_block (a := ⟨w.heap.size, 0, none⟩) hb).trans h2⟩, h4.grown hg h4.size (fun k e => by injection e with e; omega)⟩
  case assign =>
    intro l x W K hK
    gi_wp2
    exact hK
  case body =>
    rintro l pre x W hOk ⟨⟨hpre, hc, hf⟩, hB⟩ _
    have hlab := label_c (str x) W (by rw [str_size]; unfold maxLen; omega)
    rw [bl_str] at hlab
    have hsnoc : (pre ++ [x]).all labelB = labelB x := by simp [hpre]
    cases hl : labelB x
    · rw [hl] at hlab hsnoc
      have HS := Lib.hid hsnoc
      clear hsnoc hl hpre
      gi_wp2_with fail
      refine ⟨trivial, (CallsIn.inRound l (callsIn_wide.2 hlab)).mono ?_⟩
      rintro e w' ⟨rfl, rfl⟩
      gi_wp2
      exact ⟨KeepsOthers.setCell _ _ _, ⟨rfl, HS.out, World.cell?_setCell_same' _ _ _ (by rw [hc]; rfl)⟩, hB.setCell (p := ⟨w.heap.size, 0, none⟩) (Nat.le_refl _) _⟩
    · rw [hl] at hlab hsnoc
      have HS := Lib.hid hsnoc
      clear hsnoc hl hpre
      gi_wp2_with fail
      refine ⟨trivial, (CallsIn.inRound l (callsIn_wide.2 hlab)).mono ?_⟩
      rintro e w' ⟨rfl, rfl⟩
      gi_wp2
      exact ⟨KeepsOthers.refl _, Below.refl _ _, ⟨HS.out, hc, hf⟩, hB⟩
  case done =>
    rintro D xs W hD rfl ⟨⟨hall, hc, hf⟩, hB⟩ hK
    have hv : isDomainB s = decide (s.size ≤ 255) := by
      unfold isDomainB
      rw [if_neg (by simp [hp]), hall]; rfl
    gi_wp2
    have hK2 := (KeepsOthers.setCell W ⟨w.heap.size, 0, none⟩ (.bool (decide ((s.size : Int) ≤ 255)))).same D _ hK rfl
    have hc4 := World.cell?_setCell_same' W ⟨w.heap.size, 0, none⟩ (.bool (decide ((s.size : Int) ≤ 255))) (by rw [hc]; rfl)
    refine ⟨by simp, .inl ⟨_, _, rfl, run_takeDeferred hK2, ?_⟩⟩
    have hc5 := cell_kept hc4 (grownBy_putObj' _ D (.deferred none)) (fun r e => by cases e; exact ⟨_, hK2, rfl⟩)
    refine ⟨.bool (decide ((s.size : Int) ≤ 255)), ?_, ret_bool (by rw [hv]; simp; try omega), (hB.setCell (p := ⟨w.heap.size, 0, none⟩) (Nat.le_refl _) _).trans (belowK_b (w := W0) (by omega) _ D _ _ hD hK2 rfl rfl)⟩
    simp [results, Tryz.f156, go_sem, hc5]
  case stop =>
    rintro D c pre W hD hpre ⟨⟨rfl, hall, hc⟩, hB⟩ hK
    have hv : isDomainB s = false := by
      unfold isDomainB
      rw [if_neg (by simp [hp])]
      obtain ⟨q, hq⟩ := hpre
      rw [← hq, List.all_append, hall]; rfl
    gi_wp2
    refine ⟨by simp, .inl ⟨_, _, rfl, run_takeDeferred hK, ?_⟩⟩
    have hc5 := cell_kept hc (grownBy_putObj' _ D (.deferred none)) (fun r e => by cases e; exact ⟨_, hK, rfl⟩)
    refine ⟨.bool false, ?_, by rw [hv], hB.trans (belowK_b (w := W0) (by omega) W D _ _ hD hK rfl rfl)⟩
    simp [results, Tryz.f156, go_sem, hc5]

theorem bracket_two (l : List UInt8) (h : prefB [91] l = true) (h' : suffB [93] l = true) : 2 ≤ l.length := by
  unfold prefB Lib.hasPrefix at h
  unfold suffB Lib.hasSuffix at h'
  rw [List.isPrefixOf_iff_prefix] at h
  rw [List.isSuffixOf_iff_suffix] at h'
  obtain ⟨a, rfl⟩ := h
  obtain ⟨b, hb⟩ := h'
  cases a with
  | nil =>
    cases b with
    | nil => simp at hb
    | cons x y => simp at hb
  | cons x y => simp
set_option maxHeartbeats 1000000 in
theorem IsDomain_c (s : ByteArray) (w : World) (hE : Env w) (hs : s.size ≤ 1073741824) :
    Calls Tryz.prog 156 #[.string s] w fun e w' => e = .returned (.bool (isDomainB s)) ∧ Below w.heap.size w w' := by
  cases hp : prefB [91] (bl s)
  · exact callsIn_wide.1 (IsDomain_in 4 (Nat.le_refl _) s w hE hs hp)
  · have hlit := fun W => IsLiteral_c s W
    rw [hp] at hlit
    have hv : isDomainB s = (suffB [93] (bl s) && literalB (s.extract 1 (s.size - 1))) := by unfold isDomainB; rw [if_pos hp]
    have hsuf := fun W => HasSuffix_c s (str [93]) W (by omega)
    rw [bl_str] at hsuf
    have hE1 := hE.below (belowAlloc w (.cells #[.bool false] 4))
    cases hq : suffB [93] (bl s)
    · rw [hq] at hv hsuf
      have HV := Lib.hid hv
      clear hv hp hq
      go_enter Tryz.func156, Tryz.ntmps156
      go_wp2_with fail
      refine (hlit _).mono ?_
      rintro e w' ⟨rfl, rfl⟩
      go_wp2_with fail
      refine (hsuf _).mono ?_
      rintro e w' ⟨rfl, rfl⟩
      go_wp2
      have hc := cellNew w (.bool false) 4
      refine bodyPost_ret (v := .bool false) (by simp [results, Tryz.f156, go_sem]) rfl ⟨ret_bool (by rw [HV.out]; rfl), belowAlloc w _⟩
    · rw [hq, Bool.true_and] at hv
      rw [hq] at hsuf
      have h2 := bracket_two _ hp hq
      rw [bl_length] at h2
      have hl := literal_c (s.extract 1 (s.size - 1)) _ hE1 (by simp [ByteArray.size_extract]; omega)
      have HV := Lib.hid hv
      have s1 : IntKind.i64.wrap ((s.size : Int) - 1) = (s.size : Int) - 1 := IntWalk.i64_in _ (by omega)
      have s3 : ((s.size : Int) - 1).toNat = s.size - 1 := by omega
      clear hv hp hq
      go_enter Tryz.func156, Tryz.ntmps156
      go_wp2_with fail
      refine (hlit _).mono ?_
      rintro e w' ⟨rfl, rfl⟩
      go_wp2_with fail
      refine (hsuf _).mono ?_
      rintro e w' ⟨rfl, rfl⟩
      go_wp2_with fail
      refine hl.mono ?_
      rintro e w1 ⟨rfl, hB1⟩
      have c0 := cellNew w (.bool false) 4
      have c1 := (hB1.cell (p := ⟨w.heap.size, 0, none⟩) (by simp)).trans c0.1
      have f1 := (hB1.frozen (p := ⟨w.heap.size, 0, none⟩) (by simp)).trans c0.2
      clear c0
      go_wp2
      refine bodyPost_ret (v := .bool (literalB (s.extract 1 (s.size - 1)))) ?_ rfl ⟨ret_bool (by rw [HV.out]), ?_⟩
      · simp [results, Tryz.f156, go_sem, c1]
      · exact ((belowAlloc w _).trans (hB1.mono (by simp))).setCell (p := ⟨w.heap.size, 0, none⟩) (Nat.le_refl _) _

end Go.Proofs.YthbofddadgmghaaGreatDoor
