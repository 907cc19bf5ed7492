/- Walks of the packages dots (Take) and frame. -/
import Derived.Test.YthbofddadgmghaaGreatDoorA7
import Derived.Test.YthbofddadgmghaaGreatDoorShelf
set_option linter.unusedVariables false
set_option linter.unusedSimpArgs false
namespace Go.Proofs.YthbofddadgmghaaGreatDoor
open Go.RowKit Go.Shelf

/-! dots.Take -/
def takeL (l : List UInt8) : List UInt8 × Bool := if l = [46] then ([], true) else (Lib.trimPrefix l [46], false)
theorem Take_c (s : ByteArray) (w : World) : Calls Tryz.prog 139 #[.string s] w fun e w' => e = .returned (.tuple #[.string (str (takeL (bl s)).1), .bool (takeL (bl s)).2]) ∧ w = w' := by
  by_cases h0 : bl s = [46]
  · have b0 : (s.toList == [46]) = true := by rw [ba_toList, h0]; rfl
    have hv : takeL (bl s) = ([], true) := by rw [h0]; rfl
    rw [hv]
    clear hv h0
    go_enter Tryz.func139, Tryz.ntmps139
    go_wp2
    go_ret2
    exact ⟨rfl, rfl⟩
  · have b0 : (s.toList == [46]) = false := by rw [ba_toList, beq_eq_false_iff_ne]; exact h0
    have hv : takeL (bl s) = (Lib.trimPrefix (bl s) [46], false) := by unfold takeL; rw [if_neg h0]
    rw [hv]
    have ht := Tryz.strings_TrimPrefix s (str [46]) w
    clear hv h0
    go_enter Tryz.func139, Tryz.ntmps139
    go_wp2_with fail
    refine ht.mono ?_
    rintro e w1 ⟨rfl, rfl⟩
    go_wp2
    go_ret2
    exact ⟨rfl, rfl⟩

/-! frame -/
abbrev framerV (f : List UInt8 × Bool) : Value := .agg #[.string (str f.1), .bool f.2]
abbrev lineV (f : List UInt8 × Bool) : Value := .agg #[.string (str f.1), .bool f.2]
def cutF (f : List UInt8 × Bool) : List UInt8 × Bool := if f.2 = false ∧ f.1.length < 512 then f else (if suffB [13] f.1 then [13] else [], true)
def lineOf (l : List UInt8) (skip : Bool) : List UInt8 × Bool := if skip = true ∨ 510 < l.length then ([], true) else (l, false)

theorem below2 (w : World) (o o2 : Obj) : Below w.heap.size w ((w.alloc o).alloc o2) := (belowAlloc w o).alloc (by simp) o2
theorem cut_c (r : List UInt8) (k : Bool) (w : World) (hr : r.length ≤ 1099511627776) : Calls Tryz.prog 136 #[framerV (r, k)] w fun e w' => e = .returned (framerV (cutF (r, k))) ∧ Below w.heap.size w w' := by
  have hsz : (str r).size = r.length := str_size r
  obtain ⟨x0, x1, x2⟩ := cells2 w (.string (str r)) (.bool k) 128
  have f0 := x2 0
  have f1 := x2 1
  have y0 := cellOld (.cells #[.string ⟨#[]⟩, .bool false] 128) x0
  have y1 := cellOld (.cells #[.string ⟨#[]⟩, .bool false] 128) x1
  obtain ⟨z0, z1, z2⟩ := cells2 (w.alloc (.cells #[.string (str r), .bool k] 128)) (.string ⟨#[]⟩) (.bool false) 128
  have g0 := z2 0
  have g1 := z2 1
  clear x2 z2
  cases k
  · by_cases hl : r.length < 512
    · have g1 : decide ((r.length : Int) < 512) = true := decide_eq_true (by omega)
      have hv : cutF (r, false) = (r, false) := by unfold cutF; rw [if_pos ⟨rfl, hl⟩]
      rw [hv]
      clear hv hl
      go_enter Tryz.func136, Tryz.ntmps136
      go_wp2
      refine bodyPost_ret (v := framerV (r, false)) ?_ rfl ⟨rfl, below2 w _ _⟩
      simp [results, Tryz.f136, go_sem]
    · have g1 : decide ((r.length : Int) < 512) = false := decide_eq_false (by omega)
      cases hb : suffB [13] r
      · have hv : cutF (r, false) = ([], true) := by unfold cutF; rw [if_neg (by simp [hl])]; simp [hb]
        rw [hv]
        have hS := fun W => HasSuffix_c (str r) (str [13]) W (by rw [str_size]; omega)
        simp only [bl_str, hb] at hS
        clear hv hl hb
        go_enter Tryz.func136, Tryz.ntmps136
        go_wp2_with fail
        refine (hS _).mono ?_
        rintro e w1 ⟨rfl, rfl⟩
        go_wp2
        refine bodyPost_ret (v := framerV ([], true)) ?_ rfl ⟨rfl, below2 w _ _⟩
        simp [results, Tryz.f136, go_sem]
      · have hv : cutF (r, false) = ([13], true) := by unfold cutF; rw [if_neg (by simp [hl])]; simp [hb]
        rw [hv]
        have hS := fun W => HasSuffix_c (str r) (str [13]) W (by rw [str_size]; omega)
        simp only [bl_str, hb] at hS
        clear hv hl hb
        go_enter Tryz.func136, Tryz.ntmps136
        go_wp2_with fail
        refine (hS _).mono ?_
        rintro e w1 ⟨rfl, rfl⟩
        go_wp2
        refine bodyPost_ret (v := framerV ([13], true)) ?_ rfl ⟨rfl, below2 w _ _⟩
        simp [results, Tryz.f136, go_sem]
  · cases hb : suffB [13] r
    · have hv : cutF (r, true) = ([], true) := by unfold cutF; rw [if_neg (by simp)]; simp [hb]
      rw [hv]
      have hS := fun W => HasSuffix_c (str r) (str [13]) W (by rw [str_size]; omega)
      simp only [bl_str, hb] at hS
      clear hv hb
      go_enter Tryz.func136, Tryz.ntmps136
      go_wp2_with fail
      refine (hS _).mono ?_
      rintro e w1 ⟨rfl, rfl⟩
      go_wp2
      refine bodyPost_ret (v := framerV ([], true)) ?_ rfl ⟨rfl, below2 w _ _⟩
      simp [results, Tryz.f136, go_sem]
    · have hv : cutF (r, true) = ([13], true) := by unfold cutF; rw [if_neg (by simp)]; simp [hb]
      rw [hv]
      have hS := fun W => HasSuffix_c (str r) (str [13]) W (by rw [str_size]; omega)
      simp only [bl_str, hb] at hS
      clear hv hb
      go_enter Tryz.func136, Tryz.ntmps136
      go_wp2_with fail
      refine (hS _).mono ?_
      rintro e w1 ⟨rfl, rfl⟩
      go_wp2
      refine bodyPost_ret (v := framerV ([13], true)) ?_ rfl ⟨rfl, below2 w _ _⟩
      simp [results, Tryz.f136, go_sem]

theorem line_c (l : List UInt8) (k : Bool) (w : World) (hl : l.length ≤ 1099511627776) : Calls Tryz.prog 137 #[.string (str l), .bool k] w fun e w' => e = .returned (lineV (lineOf l k)) ∧ Below w.heap.size w w' := by
  have hsz : (str l).size = l.length := str_size l
  obtain ⟨x0, x1, x2⟩ := cells2 w (.string ⟨#[]⟩) (.bool false) 139
  have s1 : IntKind.i64.wrap ((l.length : Int) + 2) = (l.length : Int) + 2 := IntWalk.i64_in _ (by omega)
  cases k
  · by_cases hh : 510 < l.length
    · have g1 : decide ((512 : Int) < (l.length : Int) + 2) = true := decide_eq_true (by omega)
      have hv : lineOf l false = ([], true) := by unfold lineOf; rw [if_pos (.inr hh)]
      rw [hv]
      clear hv hh
      go_enter Tryz.func137, Tryz.ntmps137
      go_wp2
      refine bodyPost_ret (v := lineV ([], true)) ?_ rfl ⟨rfl, belowAlloc w _⟩
      simp [results, Tryz.f137, go_sem]
    · have g1 : decide ((512 : Int) < (l.length : Int) + 2) = false := decide_eq_false (by omega)
      have hv : lineOf l false = (l, false) := by unfold lineOf; rw [if_neg (by simp [hh])]
      rw [hv]
      clear hv hh
      go_enter Tryz.func137, Tryz.ntmps137
      go_wp2
      refine bodyPost_ret (v := lineV (l, false)) ?_ rfl ⟨rfl, belowAlloc w _⟩
      simp [results, Tryz.f137, go_sem]
  · have hv : lineOf l true = ([], true) := by unfold lineOf; rw [if_pos (.inl rfl)]
    rw [hv]
    clear hv
    go_enter Tryz.func137, Tryz.ntmps137
    go_wp2
    refine bodyPost_ret (v := lineV ([], true)) ?_ rfl ⟨rfl, belowAlloc w _⟩
    simp [results, Tryz.f137, go_sem]

/-! A stream's lines, byte by byte. -/
def scan : Bool → List UInt8 → List UInt8 → (List UInt8 × Bool) × List (List UInt8 × Bool)
  | skip, acc, [] => ((acc, skip), [])
  | skip, acc, c :: r => if c = 10 ∧ acc.getLast? = some 13 then ((scan false [] r).1, lineOf acc.dropLast skip :: (scan false [] r).2) else scan skip (acc ++ [c]) r
theorem scan_cons (skip : Bool) (acc : List UInt8) (c : UInt8) (r : List UInt8) : scan skip acc (c :: r) = if c = 10 ∧ acc.getLast? = some 13 then ((scan false [] r).1, lineOf acc.dropLast skip :: (scan false [] r).2) else scan skip (acc ++ [c]) r := by rw [scan]
theorem index_cons (c : UInt8) (r sub : List UInt8) : Lib.index (c :: r) sub = if sub.isPrefixOf (c :: r) then 0 else if Lib.index r sub == -1 then -1 else Lib.index r sub + 1 := by rw [Lib.index]
theorem scan_index (skip : Bool) : ∀ (l acc : List UInt8), (acc.getLast? = some 13 → l.head? ≠ some 10) →
    (Lib.index l [13, 10] = -1 → scan skip acc l = ((acc ++ l, skip), [])) ∧
    (∀ i : Nat, Lib.index l [13, 10] = (i : Int) → i + 2 ≤ l.length ∧ scan skip acc l = ((scan false [] (l.drop (i + 2))).1, lineOf (acc ++ l.take i) skip :: (scan false [] (l.drop (i + 2))).2)) := by
  intro l
  induction l with
  | nil =>
    intro acc _
    refine ⟨fun _ => by simp [scan], fun i h => ?_⟩
    simp [Lib.index] at h
  | cons c r ih =>
    intro acc ha
    have hstep : scan skip acc (c :: r) = scan skip (acc ++ [c]) r := by
      rw [scan_cons, if_neg]
      rintro ⟨rfl, h⟩
      exact ha h rfl
    have hge := Lib.index_ge r [13, 10]
    rw [hstep, index_cons]
    by_cases hp : [13, 10].isPrefixOf (c :: r) = true
    · rw [if_pos hp]
      obtain ⟨q, hq⟩ := List.isPrefixOf_iff_prefix.1 hp
      simp at hq
      obtain ⟨rfl, hq⟩ := hq
      subst hq
      refine ⟨fun h => by simp at h, fun i h => ?_⟩
      obtain rfl : i = 0 := by omega
      refine ⟨by simp, ?_⟩
      rw [scan_cons, if_pos ⟨rfl, by simp⟩]
      simp
    · rw [if_neg hp]
      have ha' : (acc ++ [c]).getLast? = some 13 → r.head? ≠ some 10 := by
        intro h1 h2
        simp at h1
        subst h1
        cases r with
        | nil => simp at h2
        | cons d q => simp at h2; subst h2; exact hp (by simp [List.isPrefixOf])
      obtain ⟨i1, i2⟩ := ih (acc ++ [c]) ha'
      by_cases hm : Lib.index r [13, 10] = -1
      · rw [hm]
        simp only [beq_self_eq_true, if_true]
        refine ⟨fun _ => by rw [i1 hm]; simp, fun i h => by omega⟩
      · rw [if_neg (by simpa using hm)]
        refine ⟨fun h => by omega, fun i h => ?_⟩
        obtain ⟨j, hj⟩ : ∃ j : Nat, Lib.index r [13, 10] = (j : Int) := ⟨(Lib.index r [13, 10]).toNat, by omega⟩
        obtain ⟨k1, k2⟩ := i2 j hj
        obtain rfl : i = j + 1 := by omega
        refine ⟨by simp; omega, ?_⟩
        rw [k2]
        simp
theorem scan_miss (skip : Bool) (l : List UInt8) (h : Lib.index l [13, 10] = -1) : scan skip [] l = ((l, skip), []) := by simpa using (scan_index skip l [] (by simp)).1 h
theorem scan_hit (skip : Bool) (l : List UInt8) (i : Nat) (h : Lib.index l [13, 10] = (i : Int)) : i + 2 ≤ l.length ∧ scan skip [] l = ((scan false [] (l.drop (i + 2))).1, lineOf (l.take i) skip :: (scan false [] (l.drop (i + 2))).2) := by simpa using (scan_index skip l [] (by simp)).2 i h

/-! A slice of bytes that can be read. -/
def IsBytes (w : World) (v : Value) (l : List UInt8) : Prop := (v = .slice none 0 0 ∧ l = []) ∨ ∃ a c, v = .slice (some a) l.length c ∧ ∀ i (h : i < l.length), w.cell? (a.add i) = some (.int .u8 (l[i].toNat : Int))
theorem cellsAtA {w W : World} {a : Addr} {v : Value} (h : w.cell? a = some v) (hb : Below w.heap.size w W) : W.cell? a = some v := (hb.cell (World.block_lt_of_cell? w _ h)).trans h
theorem IsBytes.below {w W : World} {v : Value} {l : List UInt8} (h : IsBytes w v l) (hb : Below w.heap.size w W) : IsBytes W v l := by
  rcases h with h | ⟨a, c, hv, hc⟩
  · exact .inl h
  · exact .inr ⟨a, c, hv, fun i hi => cellsAtA (hc i hi) hb⟩
theorem IsBytes.conv {w : World} {v : Value} {l : List UInt8} (h : IsBytes w v l) : (convert 33 9 v).run Tryz.prog w = .ok (.string (str l)) w := by
  rcases h with ⟨rfl, rfl⟩ | ⟨a, c, rfl, hc⟩
  · exact run_convert_bytes_nil w 33 5 Tryz.underlying33 Tryz.underlying5 0 0 9 Tryz.underlying9
  · exact run_convert_bytes_back w 33 9 5 a c l Tryz.underlying33 Tryz.underlying5 Tryz.underlying9 fun j hj => hc j hj

def lineCells (ls : List (List UInt8 × Bool)) : List Value := ls.flatMap fun x => [.string (str x.1), .bool x.2]
def putL (f : List UInt8 × Bool) (l : List UInt8) : (List UInt8 × Bool) × List (List UInt8 × Bool) := (cutF (scan f.2 [] (f.1 ++ l)).1, (scan f.2 [] (f.1 ++ l)).2)
theorem info139 : (Tryz.prog.info? 139).map (fun i => (i.zero, i.size, i.bytes)) = some (some (.agg #[.string ⟨#[]⟩, .bool false]), 2, 24) := by kernel_rfl

end Go.Proofs.YthbofddadgmghaaGreatDoor
