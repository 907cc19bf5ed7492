/- Walks of the package addr: local parts, mailboxes, paths; its panics caught. -/
import Derived.Test.YthbofddadgmghaaGreatDoorA4
import Derived.Defers
import Derived.Recover
import Derived.Laws.Pointers
set_option linter.unusedVariables false
set_option linter.unusedSimpArgs false
namespace Go.Proofs.YthbofddadgmghaaGreatDoor
open Go.RowKit Go.Shelf

theorem quotedGo_len : ∀ (l acc m r : List UInt8), quotedGo acc l = some (m, r) → m.length ≤ acc.length + l.length ∧ r.length ≤ l.length := by
  intro l
  induction h : l.length using Nat.strongRecOn generalizing l with
  | _ n ih =>
    intro acc m r hq
    cases l with
    | nil => rw [quotedGo.eq_def] at hq; cases hq
    | cons c q =>
      rw [quotedGo_cons] at hq
      simp only [List.length_cons] at h
      by_cases c1 : c.toNat = 34
      · rw [if_pos c1] at hq
        simp only [Option.some.injEq, Prod.mk.injEq] at hq
        obtain ⟨rfl, rfl⟩ := hq
        omega
      · rw [if_neg c1] at hq
        by_cases c2 : c.toNat = 92
        · rw [if_pos c2] at hq
          cases q with
          | nil => cases hq
          | cons d q' =>
            simp only at hq
            simp only [List.length_cons] at h
            split at hq
            · have := ih q'.length (by omega) q' rfl _ _ _ hq
              simp only [List.length_append, List.length_cons, List.length_nil] at this
              omega
            · cases hq
        · rw [if_neg c2] at hq
          split at hq
          · have := ih q.length (by omega) q rfl _ _ _ hq
            simp only [List.length_append, List.length_cons, List.length_nil] at this
            omega
          · cases hq
theorem quotedL_len {l m r : List UInt8} (h : quotedL l = some (m, r)) : m.length ≤ l.length ∧ r.length ≤ l.length := by
  have := quotedGo_len _ _ _ _ h
  simp only [List.length_drop, List.length_nil] at this
  omega

theorem below_drewN (w : World) (n : Nat) : Below w.heap.size w (w.drewN n) := ⟨rfl, rfl, rfl, Nat.le_refl _, fun _ _ => rfl⟩
theorem indexByte_lt : ∀ (l : List UInt8) (c : UInt8) (i : Nat), Lib.indexByte l c = (i : Int) → i < l.length
  | [], c, i, h => by rw [Lib.indexByte] at h; omega
  | x :: r, c, i, h => by
    rw [Lib.indexByte] at h
    split at h
    · simp; omega
    · split at h
      · omega
      · have hge := Lib.indexByte_ge r c
        rename_i h'
        have hne : Lib.indexByte r c ≠ -1 := by simpa using h'
        have := indexByte_lt r c (i - 1) (by omega)
        simp only [List.length_cons]
        omega
def localL (l : List UInt8) : Option (List UInt8 × List UInt8) :=
  if prefB [34] l then (match quotedL l with
    | some (m, r) => some (quoteL m, r)
    | none => none)
  else if 0 ≤ Lib.indexByte l 64 then (if plainB (l.take (Lib.indexByte l 64).toNat) then some (l.take (Lib.indexByte l 64).toNat, l.drop (Lib.indexByte l 64).toNat) else none) else none

set_option maxHeartbeats 1000000 in
theorem local_c (s : ByteArray) (w : World) (hs : s.size ≤ 1073741824) : Calls Tryz.prog 291 #[.string s] w fun e w' => e = endSS (localL (bl s)) ∧ Below w.heap.size w w' := by
  have hpre := fun W => HasPrefix_c s (str [34]) W
  rw [bl_str] at hpre
  have hL : Hid (localL (bl s) = localL (bl s)) := rfl
  cases hp : prefB [34] (bl s)
  · rw [hp] at hpre
    have hv : localL (bl s) = if 0 ≤ Lib.indexByte (bl s) 64 then (if plainB ((bl s).take (Lib.indexByte (bl s) 64).toNat) then some ((bl s).take (Lib.indexByte (bl s) 64).toNat, (bl s).drop (Lib.indexByte (bl s) 64).toNat) else none) else none := by
      unfold localL; rw [if_neg (by simp [hp])]
    have hix := fun W => Tryz.strings_IndexByte s 64 W
    by_cases hm : 0 ≤ Lib.indexByte (bl s) 64
    · obtain ⟨i, h1⟩ : ∃ i : Nat, Lib.indexByte (bl s) 64 = (i : Int) := ⟨_, (Int.toNat_of_nonneg (by omega)).symm⟩
      rw [if_pos hm, h1, Int.toNat_natCast] at hv
      have hilt : i < s.size := by rw [← bl_length]; exact indexByte_lt _ _ _ h1
      have hix2 : ∀ W, Calls Tryz.prog 317 #[.string s, .int .u8 64] W fun e w' => e = .returned (.int .i64 (i : Int)) ∧ W = w' := fun W => (hix W).mono fun e w' ⟨he, hw⟩ => ⟨by rw [he]; exact ret_int h1, hw.symm⟩
      have hpl : ∀ W, Calls Tryz.prog 318 #[.string (s.extract 0 i)] W fun e w' => e = .returned (.bool (plainB ((bl s).take i))) ∧ W = w' := fun W => (plain_c (s.extract 0 i) W (by simp [ByteArray.size_extract]; unfold maxLen; omega)).mono fun e w' ⟨he, hw⟩ => ⟨by rw [he, bl_extract]; simp, hw⟩
      have x1 : s.extract 0 i = str ((bl s).take i) := bl_inj (by rw [bl_extract]; simp [bl_str])
      have x2 : s.extract i s.size = str ((bl s).drop i) := extract_end _ _
      have g1 : decide ((0 : Int) ≤ (i : Int)) = true := decide_eq_true (by omega)
      have HX1 := Lib.hid x1
      have HX2 := Lib.hid x2
      clear hix hm h1 x1 x2
      cases hq : plainB ((bl s).take i)
      · rw [hq] at hpl
        rw [hq, if_neg (by simp)] at hv
        have HV := Lib.hid hv
        clear hv hq hp
        go_enter Tryz.func291, Tryz.ntmps291
        go_wp2_with fail
        refine (hpre _).mono ?_
        rintro e w' ⟨rfl, rfl⟩
        go_wp2_with fail
        refine (hix2 _).mono ?_
        rintro e w' ⟨rfl, rfl⟩
        go_wp2_with fail
        refine (hpl _).mono ?_
        rintro e w' ⟨rfl, rfl⟩
        go_wp2_with fail
        refine (must_no _).mono ?_
        rintro e w' ⟨rfl, rfl⟩
        go_wp2
        exact ⟨rfl, by rw [HV.out]; rfl, Below.refl _ _⟩
      · rw [hq] at hpl
        rw [hq, if_pos rfl] at hv
        have HV := Lib.hid hv
        clear hv hq hp
        go_enter Tryz.func291, Tryz.ntmps291
        go_wp2_with fail
        refine (hpre _).mono ?_
        rintro e w' ⟨rfl, rfl⟩
        go_wp2_with fail
        refine (hix2 _).mono ?_
        rintro e w' ⟨rfl, rfl⟩
        go_wp2_with fail
        refine (hpl _).mono ?_
        rintro e w' ⟨rfl, rfl⟩
        go_wp2_with fail
        refine (must_yes _).mono ?_
        rintro e w' ⟨rfl, rfl⟩
        have s2 : (0 : Int) ≤ (i : Int) := by omega
        have s4 : (i : Int) ≤ (s.size : Int) := by omega
        go_wp2
        go_quiet (fail)
        go_wp2
        go_ret2
        exact ⟨by rw [HV.out, HX1.out, HX2.out]; rfl, below_drewN _ _⟩
    · rw [if_neg hm] at hv
      have h1 : Lib.indexByte (bl s) 64 = -1 := by have := Lib.indexByte_ge (bl s) 64; omega
      have hix2 : ∀ W, Calls Tryz.prog 317 #[.string s, .int .u8 64] W fun e w' => e = .returned (.int .i64 (-1)) ∧ W = w' := fun W => (hix W).mono fun e w' ⟨he, hw⟩ => ⟨by rw [he]; exact ret_int h1, hw.symm⟩
      have HV := Lib.hid hv
      clear hix hm h1 hv hp
      go_enter Tryz.func291, Tryz.ntmps291
      go_wp2_with fail
      refine (hpre _).mono ?_
      rintro e w' ⟨rfl, rfl⟩
      go_wp2_with fail
      refine (hix2 _).mono ?_
      rintro e w' ⟨rfl, rfl⟩
      go_wp2_with fail
      refine (must_no _).mono ?_
      rintro e w' ⟨rfl, rfl⟩
      go_wp2
      exact ⟨rfl, by rw [HV.out]; rfl, Below.refl _ _⟩
  · rw [hp] at hpre
    have hq := quoted_c s w (by omega)
    cases hqq : quotedL (bl s) with
    | none =>
      rw [hqq] at hq
      have hv : localL (bl s) = none := by unfold localL; rw [if_pos hp, hqq]
      have HV := Lib.hid hv
      simp only [endSS] at hq
      clear hv hp hqq
      go_enter Tryz.func291, Tryz.ntmps291
      go_wp2_with fail
      refine (hpre _).mono ?_
      rintro e w' ⟨rfl, rfl⟩
      go_wp2_with fail
      refine hq.mono ?_
      rintro e w' ⟨rfl, hB⟩
      go_wp2
      exact ⟨rfl, by rw [HV.out]; rfl, hB⟩
    | some p =>
      obtain ⟨m, r⟩ := p
      rw [hqq] at hq
      have hl := quotedL_len hqq
      rw [bl_length] at hl
      have hv : localL (bl s) = some (quoteL m, r) := by unfold localL; rw [if_pos hp, hqq]
      have HV := Lib.hid hv
      have hqt := fun W => quote_c (str m) W (by rw [str_size]; omega)
      rw [bl_str] at hqt
      simp only [endSS] at hq
      clear hv hp hqq
      go_enter Tryz.func291, Tryz.ntmps291
      go_wp2_with fail
      refine (hpre _).mono ?_
      rintro e w' ⟨rfl, rfl⟩
      go_wp2_with fail
      refine hq.mono ?_
      rintro e w1 ⟨rfl, hB⟩
      go_wp2_with fail
      refine (hqt _).mono ?_
      rintro e w2 ⟨rfl, hB2⟩
      go_wp2
      go_ret2
      exact ⟨by rw [HV.out]; rfl, bThen hB (Nat.le_refl _) hB2⟩

theorem localL_len {l p r : List UInt8} (h : localL l = some (p, r)) : p.length ≤ 2 * l.length + 2 ∧ r.length ≤ l.length := by
  unfold localL at h
  split at h
  · split at h
    · rename_i m q hq
      simp only [Option.some.injEq, Prod.mk.injEq] at h
      obtain ⟨rfl, rfl⟩ := h
      have h1 := quotedL_len hq
      have h2 := escL_length m
      refine ⟨?_, h1.2⟩
      unfold quoteL
      split
      · omega
      · simp; omega
    · cases h
  · split at h
    · split at h
      · simp only [Option.some.injEq, Prod.mk.injEq] at h
        obtain ⟨rfl, rfl⟩ := h
        simp only [List.length_take, List.length_drop]
        omega
      · cases h
    · cases h
theorem cells2 (W : World) (a b : Value) (T : Nat) : (W.alloc (.cells #[a, b] T)).cell? ⟨W.heap.size, 0, none⟩ = some a ∧ (W.alloc (.cells #[a, b] T)).cell? ⟨W.heap.size, 1, none⟩ = some b ∧ (∀ j, (W.alloc (.cells #[a, b] T)).frozen? ⟨W.heap.size, j, none⟩ = false) := by
  refine ⟨by rw [cell_alloc_new]; rfl, by rw [cell_alloc_new]; rfl, fun j => ?_⟩
  unfold World.frozen?
  rw [heap_alloc_new]
  simp
theorem held2 {W W1 : World} {a b : Value} {T : Nat} (h : Below (W.alloc (.cells #[a, b] T)).heap.size (W.alloc (.cells #[a, b] T)) W1) :
    W1.cell? ⟨W.heap.size, 0, none⟩ = some a ∧ W1.cell? ⟨W.heap.size, 1, none⟩ = some b ∧ W1.frozen? ⟨W.heap.size, 0, none⟩ = false ∧ W1.frozen? ⟨W.heap.size, 1, none⟩ = false := by
  obtain ⟨h0, h1, h2⟩ := cells2 W a b T
  have hlt : W.heap.size < (W.alloc (.cells #[a, b] T)).heap.size := by simp
  exact ⟨(h.cell (p := ⟨W.heap.size, 0, none⟩) hlt).trans h0, (h.cell (p := ⟨W.heap.size, 1, none⟩) hlt).trans h1, (h.frozen (p := ⟨W.heap.size, 0, none⟩) hlt).trans (h2 0), (h.frozen (p := ⟨W.heap.size, 1, none⟩) hlt).trans (h2 1)⟩
def readL (l : List UInt8) : Option (List UInt8 × List UInt8) := match localL l with
  | none => none
  | some (p, r) => if decide (p.length ≤ 64) && prefB [64] r then (if isDomainB (str (smallL (r.drop 1))) then some (p, smallL (r.drop 1)) else none) else none
def endM : Option (List UInt8 × List UInt8) → Ending
  | some (p, d) => .returned (.agg #[.string (str p), .string (str d)])
  | none => wrongE 8

theorem pref_pos {c : UInt8} {r : List UInt8} (h : prefB [c] r = true) : 1 ≤ r.length := by
  unfold prefB Lib.hasPrefix at h
  rw [List.isPrefixOf_iff_prefix] at h
  obtain ⟨a, rfl⟩ := h
  simp

set_option maxHeartbeats 1000000 in
theorem read_c (s : ByteArray) (w : World) (hE : Env w) (hs : s.size ≤ 536870912) : Calls Tryz.prog 267 #[.string s] w fun e w' => e = endM (readL (bl s)) ∧ Below w.heap.size w w' := by
  have hloc := local_c s (w.alloc (.cells #[.string ⟨#[]⟩, .string ⟨#[]⟩] 75)) (by omega)
  cases hl : localL (bl s) with
  | none =>
    rw [hl] at hloc
    simp only [endSS] at hloc
    have hv : readL (bl s) = none := by unfold readL; rw [hl]
    have HV := Lib.hid hv
    clear hv hl
    go_enter Tryz.func267, Tryz.ntmps267
    go_wp2_with fail
    refine hloc.mono ?_
    rintro e w1 ⟨rfl, hB⟩
    go_wp2
    exact ⟨rfl, by rw [HV.out]; rfl, (belowAlloc w _).trans (hB.mono (by simp))⟩
  | some q =>
    obtain ⟨p, r⟩ := q
    rw [hl] at hloc
    simp only [endSS] at hloc
    have hll := localL_len hl
    rw [bl_length] at hll
    have hv : readL (bl s) = if decide (p.length ≤ 64) && prefB [64] r then (if isDomainB (str (smallL (r.drop 1))) then some (p, smallL (r.drop 1)) else none) else none := by unfold readL; rw [hl]
    have hpre := fun W => HasPrefix_c (str r) (str [64]) W
    rw [bl_str, bl_str] at hpre
    have hsz : (str p).size = p.length := str_size p
    by_cases c1 : p.length ≤ 64
    · have g1 : decide (((str p).size : Int) ≤ 64) = true := decide_eq_true (by omega)
      have g1' : decide ((p.length : Int) ≤ 64) = true := decide_eq_true (by omega)
      cases c2 : prefB [64] r
      · rw [c2, Bool.and_false, if_neg (by simp)] at hv
        rw [c2] at hpre
        have HV := Lib.hid hv
        clear hv hl c2 hsz c1
        go_enter Tryz.func267, Tryz.ntmps267
        go_wp2_with fail
        refine hloc.mono ?_
        rintro e w1 ⟨rfl, hB⟩
        go_wp2_with fail
        refine (hpre _).mono ?_
        rintro e w' ⟨rfl, rfl⟩
        go_wp2_with fail
        refine (must_no _).mono ?_
        rintro e w' ⟨rfl, rfl⟩
        go_wp2
        exact ⟨rfl, by rw [HV.out]; rfl, (belowAlloc w _).trans (hB.mono (by simp))⟩
      · rw [c2, decide_eq_true c1, Bool.and_self, if_pos rfl] at hv
        rw [c2] at hpre
        have hr1 := pref_pos c2
        have x1 : (str r).extract 1 r.length = str (r.drop 1) := by
          have := extract_end (str r) 1
          rw [str_size, bl_str] at this
          exact this
        have hsm := fun W => small_c (str (r.drop 1)) W (by rw [str_size]; simp; unfold maxLen; omega)
        rw [← x1, bl_extract, bl_str] at hsm
        have x3 : (r.drop 1).take (r.length - 1) = r.drop 1 := List.take_of_length_le (by simp)
        rw [x3] at hsm
        generalize hd : smallL (r.drop 1) = d at *
        have hdl : d.length ≤ r.length := by rw [← hd]; simp [smallL]
        have hdom := fun W hW => IsDomain_c (str d) W hW (by rw [str_size]; omega)
        have hE0 := hE.below (belowAlloc w (.cells #[.string ⟨#[]⟩, .string ⟨#[]⟩] 75))
        have HX1 := Lib.hid x1
        have HD := Lib.hid hd
        clear x1 x3 hd c1 c2 hl hsz
        cases c3 : isDomainB (str d)
        all_goals
          rw [c3] at hv hdom
          have HV := Lib.hid hv
          clear hv c3
        · go_enter Tryz.func267, Tryz.ntmps267
          go_wp2_with fail
          refine hloc.mono ?_
          rintro e w1 ⟨rfl, hB⟩
          go_wp2_with fail
          refine (hpre _).mono ?_
          rintro e w' ⟨rfl, rfl⟩
          go_wp2_with fail
          refine (must_yes _).mono ?_
          rintro e w' ⟨rfl, rfl⟩
          go_wp2_with fail
          refine (hsm _).mono ?_
          rintro e w2 ⟨rfl, hB2⟩
          go_wp2_with fail
          refine (hdom _ ((hE0.below hB).below hB2)).mono ?_
          rintro e w3 ⟨rfl, hB3⟩
          go_wp2_with fail
          refine (must_no _).mono ?_
          rintro e w' ⟨rfl, rfl⟩
          go_wp2
          exact ⟨rfl, by rw [HV.out]; rfl, bThen (bThen ((belowAlloc w _).trans (hB.mono (by simp))) (Nat.le_refl _) hB2) (Nat.le_refl _) hB3⟩
        · go_enter Tryz.func267, Tryz.ntmps267
          go_wp2_with fail
          refine hloc.mono ?_
          rintro e w1 ⟨rfl, hB⟩
          go_wp2_with fail
          refine (hpre _).mono ?_
          rintro e w' ⟨rfl, rfl⟩
          go_wp2_with fail
          refine (must_yes _).mono ?_
          rintro e w' ⟨rfl, rfl⟩
          go_wp2_with fail
          refine (hsm _).mono ?_
          rintro e w2 ⟨rfl, hB2⟩
          go_wp2_with fail
          refine (hdom _ ((hE0.below hB).below hB2)).mono ?_
          rintro e w3 ⟨rfl, hB3⟩
          go_wp2_with fail
          refine (must_yes _).mono ?_
          rintro e w' ⟨rfl, rfl⟩
          have hBB : Below (w.alloc (.cells #[.string ⟨#[]⟩, .string ⟨#[]⟩] 75)).heap.size (w.alloc (.cells #[.string ⟨#[]⟩, .string ⟨#[]⟩] 75)) w3 := bThen (bThen hB (Nat.le_refl _) hB2) (Nat.le_refl _) hB3
          obtain ⟨q0, q1, q2, q3⟩ := held2 hBB
          have HBB := Lib.hid ((belowAlloc w _).trans (hBB.mono (by simp)))
          clear hB hB2 hB3 hBB hE0 hE
          go_wp2
          refine bodyPost_ret (v := .agg #[.string (str p), .string (str d)]) ?_ rfl ⟨by rw [HV.out]; rfl, ?_⟩
          · simp [results, Tryz.f267, go_sem, q0, q1]
          · exact (HBB.out.setCell (p := ⟨w.heap.size, 0, none⟩) (Nat.le_refl _) _).setCell (p := ⟨w.heap.size, 1, none⟩) (Nat.le_refl _) _
    · have g1' : decide ((p.length : Int) ≤ 64) = false := decide_eq_false (by omega)
      rw [decide_eq_false c1, Bool.false_and, if_neg (by simp)] at hv
      have HV := Lib.hid hv
      clear hv hl hsz c1
      go_enter Tryz.func267, Tryz.ntmps267
      go_wp2_with fail
      refine hloc.mono ?_
      rintro e w1 ⟨rfl, hB⟩
      go_wp2_with fail
      refine (must_no _).mono ?_
      rintro e w' ⟨rfl, rfl⟩
      go_wp2
      exact ⟨rfl, by rw [HV.out]; rfl, (belowAlloc w _).trans (hB.mono (by simp))⟩

set_option maxHeartbeats 1000000 in
theorem caught_idle (p : Addr) (w : World) :
    CallsD Tryz.prog 266 #[.pointer (some p)] .returning w fun e u' w' => e = .returned (.tuple #[]) ∧ u' = .returning ∧ w' = w := by
  refine callsD_of_wpS Tryz.func266 rfl fun c₀ cs hu => ?_
  simp only [Tryz.ntmps266, List.size_toArray, List.length_cons, List.length_nil, Nat.reduceAdd, Nat.reduceSub, Array.replicate_succ, Array.replicate_zero, List.push_toArray, List.append_toArray, List.nil_append, List.cons_append]
  apply wpS_seq
  apply wpS_region
  simp [wpOpsS, go_sem, recoverD, hu, Exit.thenS]
  refine wpS_of_wp ?_
  go_wp2_with fail
  cases c₀
  simp_all [bodyPostS, results, Tryz.results266]

set_option maxRecDepth 100000 in
set_option maxHeartbeats 1000000 in
theorem caught_panicking (p : Addr) (x n : Int) (older : List PanicEntry) (w : World) (hc : w.cell? p = some (.int .i64 x)) (hz : w.frozen? p = false) :
    CallsD Tryz.prog 266 #[.pointer (some p)] (.panicking ({ v := wrongV n, recovered := false } :: older)) w fun e u' w' =>
      e = .returned (.tuple #[]) ∧ u' = .panicking ({ v := wrongV n, recovered := true } :: older) ∧ w' = (w.alloc (.cells #[.int .i64 n] 287)).setCell p (.int .i64 n) := by
  have hta : ∀ (v : Value) (W : World), (Instr.typeAssert (.iface 287 v) 20 287 true).run Tryz.prog W = .ok (.tuple #[v, .bool true]) W := fun v W => by rfl
  refine callsD_of_wpS Tryz.func266 rfl fun c₀ cs hu => ?_
  simp only [Tryz.ntmps266, List.size_toArray, List.length_cons, List.length_nil, Nat.reduceAdd, Nat.reduceSub, Array.replicate_succ, Array.replicate_zero, List.push_toArray, List.append_toArray, List.nil_append, List.cons_append]
  apply wpS_seq
  apply wpS_region
  simp [wpOpsS, go_sem, recoverD, hu, Exit.thenS]
  refine wpS_of_wp ?_
  generalize hq : bodyPostS Tryz.prog Tryz.f266 c₀ cs = Q
  have HQ := Lib.hid hq
  have HU := Lib.hid hu
  have hc1 := cellOld (.cells #[.int .i64 0] 287) hc
  have hf1 := frozOld (.cells #[.int .i64 0] 287) hc hz
  have hc2 := cellOld (.cells #[.int .i64 n] 287) hc
  have hf2 := frozOld (.cells #[.int .i64 n] 287) hc hz
  clear hq hu hc hz
  go_wp2_with fail
  rw [← HQ.out]
  simp [bodyPostS, results, Tryz.results266]

theorem held1 {W W0 W1 : World} {a : Addr} {v : Value} (hb : Below W0.heap.size W0 W1) (h : W0.cell? a = some v ∧ W0.frozen? a = false) : W1.cell? a = some v ∧ W1.frozen? a = false :=
  ⟨(hb.cell (World.block_lt_of_cell? W0 a h.1)).trans h.1, (hb.frozen (World.block_lt_of_cell? W0 a h.1)).trans h.2⟩
abbrev boxV (p d : List UInt8) : Value := .agg #[.string (str p), .string (str d)]
def endP : Option (List UInt8 × List UInt8) → Ending
  | some (p, d) => .returned (.tuple #[boxV p d, .int .i64 0])
  | none => .returned (.tuple #[boxV [] [], .int .i64 8])

set_option maxRecDepth 100000 in
set_option maxHeartbeats 1000000 in
theorem Parse_c (s : ByteArray) (w : World) (hE : Env w) (hs : s.size ≤ 536870912) : Calls Tryz.prog 234 #[.string s] w fun e w' => e = endP (readL (bl s)) ∧ Below w.heap.size w w' := by
  have hB0 := (belowAlloc w (.cells #[.string ⟨#[]⟩, .string ⟨#[]⟩] 75)).trans ((belowAlloc (w.alloc (.cells #[.string ⟨#[]⟩, .string ⟨#[]⟩] 75)) (.cells #[.int .i64 0] 59)).mono (by simp))
  have hrd := read_c s _ (hE.below hB0) hs
  cases hr : readL (bl s) with
  | none =>
    rw [hr] at hrd
    simp only [endM] at hrd
    have HV := Lib.hid hr
    clear hr
    go_enter_defers Tryz.func234, Tryz.ntmps234
    go_wp2_with fail
    refine hrd.mono ?_
    rintro e w1 ⟨rfl, hB⟩
    go_wp2_with fail
    obtain ⟨x0, x1, x2⟩ := cells2 w (.string ⟨#[]⟩) (.string ⟨#[]⟩) 75
    have y0 := cellNew (w.alloc (.cells #[.string ⟨#[]⟩, .string ⟨#[]⟩] 75)) (.int .i64 0) 59
    rw [World.size_alloc] at y0
    obtain ⟨c0, f0⟩ := held1 (W := w) hB ⟨cellOld _ x0, frozOld _ x0 (x2 0)⟩
    obtain ⟨c1, f1⟩ := held1 (W := w) hB ⟨cellOld _ x1, frozOld _ x1 (x2 1)⟩
    obtain ⟨c2, f2⟩ := held1 (W := w) hB y0
    refine leaves_cons (f := 266) (args := #[.pointer (some ⟨w.heap.size + 1, 0, none⟩)]) (by simp) (by simp [go_sem]) ?_
    refine (caught_panicking ⟨w.heap.size + 1, 0, none⟩ 0 8 [] w1 c2 f2).mono ?_
    rintro e u' w'' ⟨rfl, rfl, rfl⟩
    have d0 := cellOld (.cells #[.int .i64 8] 287) c0
    have d1 := cellOld (.cells #[.int .i64 8] 287) c1
    have d2 := cellOld (.cells #[.int .i64 8] 287) c2
    have e2 : ((w1.alloc (.cells #[.int .i64 8] 287)).setCell ⟨w.heap.size + 1, 0, none⟩ (.int .i64 8)).cell? ⟨w.heap.size + 1, 0, none⟩ = some (.int .i64 8) := World.cell?_setCell_same' _ _ _ (by rw [d2]; rfl)
    have e0 : ((w1.alloc (.cells #[.int .i64 8] 287)).setCell ⟨w.heap.size + 1, 0, none⟩ (.int .i64 8)).cell? ⟨w.heap.size, 0, none⟩ = some (.string ⟨#[]⟩) := by
      rw [World.cell?_setCell_other _ _ _ _ (by intro h; injection h with h; omega)]; exact d0
    have e1 : ((w1.alloc (.cells #[.int .i64 8] 287)).setCell ⟨w.heap.size + 1, 0, none⟩ (.int .i64 8)).cell? ⟨w.heap.size, 1, none⟩ = some (.string ⟨#[]⟩) := by
      rw [World.cell?_setCell_other _ _ _ _ (by intro h; injection h with h; omega)]; exact d1
    have hsz := hB.size
    simp only [World.size_alloc] at hsz
    have hBB : Below w.heap.size w ((w1.alloc (.cells #[.int .i64 8] 287)).setCell ⟨w.heap.size + 1, 0, none⟩ (.int .i64 8)) :=
      ((hB0.trans (hB.mono (by simp; omega))).alloc (by omega) _).setCell (p := ⟨w.heap.size + 1, 0, none⟩) (by show w.heap.size ≤ w.heap.size + 1; omega) _
    simp [Leaves, settle, results, Tryz.results234, go_sem, e0, e1, e2, endP, hBB]
  | some q =>
    obtain ⟨p, d⟩ := q
    rw [hr] at hrd
    simp only [endM] at hrd
    have HV := Lib.hid hr
    clear hr
    obtain ⟨x0, x1, x2⟩ := cells2 w (.string ⟨#[]⟩) (.string ⟨#[]⟩) 75
    have y0 := cellNew (w.alloc (.cells #[.string ⟨#[]⟩, .string ⟨#[]⟩] 75)) (.int .i64 0) 59
    rw [World.size_alloc] at y0
    go_enter_defers Tryz.func234, Tryz.ntmps234
    go_wp2_with fail
    refine hrd.mono ?_
    rintro e w1 ⟨rfl, hB⟩
    obtain ⟨c0, f0⟩ := held1 (W := w) hB ⟨cellOld _ x0, frozOld _ x0 (x2 0)⟩
    obtain ⟨c1, f1⟩ := held1 (W := w) hB ⟨cellOld _ x1, frozOld _ x1 (x2 1)⟩
    obtain ⟨c2, f2⟩ := held1 (W := w) hB y0
    have hsz := hB.size
    simp only [World.size_alloc] at hsz
    have HB := Lib.hid (hB0.trans (hB.mono (by simp; omega)))
    have HZ := Lib.hid hsz
    clear hB0 hB x0 x1 x2 y0 hsz hE
    go_wp2_with fail
    refine leaves_cons (f := 266) (args := #[.pointer (some ⟨w.heap.size + 1, 0, none⟩)]) (by simp) (by simp [go_sem]) ?_
    refine (caught_idle ⟨w.heap.size + 1, 0, none⟩ _).mono ?_
    rintro e u' w'' ⟨rfl, rfl, rfl⟩
    have e2 : (((w1.setCell ⟨w.heap.size, 0, none⟩ (.string (str p))).setCell ⟨w.heap.size, 1, none⟩ (.string (str d))).setCell ⟨w.heap.size + 1, 0, none⟩ (.int .i64 0)).cell? ⟨w.heap.size + 1, 0, none⟩ = some (.int .i64 0) :=
      World.cell?_setCell_same' _ _ _ (by rw [World.cell?_setCell_other _ _ _ _ (by intro h; injection h with h; omega), World.cell?_setCell_other _ _ _ _ (by intro h; injection h with h; omega), c2]; rfl)
    have e1 : (((w1.setCell ⟨w.heap.size, 0, none⟩ (.string (str p))).setCell ⟨w.heap.size, 1, none⟩ (.string (str d))).setCell ⟨w.heap.size + 1, 0, none⟩ (.int .i64 0)).cell? ⟨w.heap.size, 1, none⟩ = some (.string (str d)) := by
      rw [World.cell?_setCell_other _ _ _ _ (by intro h; injection h with h; omega)]
      exact World.cell?_setCell_same' _ _ _ (by rw [World.cell?_setCell_other _ _ _ _ (by intro h; injection h with h h'; omega), c1]; rfl)
    have e0 : (((w1.setCell ⟨w.heap.size, 0, none⟩ (.string (str p))).setCell ⟨w.heap.size, 1, none⟩ (.string (str d))).setCell ⟨w.heap.size + 1, 0, none⟩ (.int .i64 0)).cell? ⟨w.heap.size, 0, none⟩ = some (.string (str p)) := by
      rw [World.cell?_setCell_other _ _ _ _ (by intro h; injection h with h; omega), World.cell?_setCell_other _ _ _ _ (by intro h; injection h with h h'; omega)]
      exact World.cell?_setCell_same' _ _ _ (by rw [c0]; rfl)
    have hBB : Below w.heap.size w (((w1.setCell ⟨w.heap.size, 0, none⟩ (.string (str p))).setCell ⟨w.heap.size, 1, none⟩ (.string (str d))).setCell ⟨w.heap.size + 1, 0, none⟩ (.int .i64 0)) :=
      ((HB.out.setCell (p := ⟨w.heap.size, 0, none⟩) (Nat.le_refl _) _).setCell (p := ⟨w.heap.size, 1, none⟩) (Nat.le_refl _) _).setCell (p := ⟨w.heap.size + 1, 0, none⟩) (by show w.heap.size ≤ w.heap.size + 1; omega) _
    simp [Leaves, settle, results, Tryz.results234, go_sem, e0, e1, e2, endP, hBB]

end Go.Proofs.YthbofddadgmghaaGreatDoor
