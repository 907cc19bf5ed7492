/- Walks of the laws' helpers: cells (slices of slices of bytes), their weight. -/
import Derived.Test.YthbofddadgmghaaGreatDoorB9
set_option linter.unusedVariables false
set_option linter.unusedSimpArgs false
namespace Go.Proofs.YthbofddadgmghaaGreatDoor
open Go.RowKit Go.Shelf

/-- A slice of slices of bytes that can be read. -/
def IsCells (w : World) (v : Value) (Ls : List (List UInt8)) : Prop := (v = .slice none 0 0 ∧ Ls = []) ∨ ∃ a c, v = .slice (some a) Ls.length c ∧ ∀ k (h : k < Ls.length), ∃ sv, w.cell? (a.add k) = some sv ∧ IsBytes w sv Ls[k]
theorem IsCells.below {w W : World} {v : Value} {Ls : List (List UInt8)} (h : IsCells w v Ls) (hb : Below w.heap.size w W) : IsCells W v Ls := by
  rcases h with h | ⟨a, c, hv, hc⟩
  · exact .inl h
  · refine .inr ⟨a, c, hv, fun k hk => ?_⟩
    obtain ⟨sv, h1, h2⟩ := hc k hk
    exact ⟨sv, cellsAtA h1 hb, h2.below hb⟩
theorem IsCells.form {w : World} {v : Value} {Ls : List (List UInt8)} (h : IsCells w v Ls) : ∃ ao c, v = .slice ao Ls.length c := by
  rcases h with ⟨rfl, rfl⟩ | ⟨a, c, rfl, _⟩
  · exact ⟨_, _, rfl⟩
  · exact ⟨_, _, rfl⟩
theorem IsBytes.form {w : World} {v : Value} {l : List UInt8} (h : IsBytes w v l) : ∃ ao c, v = .slice ao l.length c := by
  rcases h with ⟨rfl, rfl⟩ | ⟨a, c, rfl, _⟩
  · exact ⟨_, _, rfl⟩
  · exact ⟨_, _, rfl⟩
/-- Where something can be read the address is a plain one. -/
theorem plainAddr {w : World} {a : Addr} {k : Nat} {v : Value} (h0 : w.cell? (a.add 0) = some v) : ∃ b o, a = ⟨b, o, none⟩ ∧ a.add k = ⟨b, o + k, none⟩ := by
  have e : a.add 0 = a := by unfold Addr.add; rw [if_pos rfl]
  rw [e] at h0
  have := World.cell?_spot h0
  obtain ⟨b, o, s⟩ := a
  simp only at this
  subst this
  exact ⟨b, o, rfl, Addr.add_lit ..⟩
theorem IsCells.at {w : World} {v : Value} {Ls : List (List UInt8)} (h : IsCells w v Ls) (k : Nat) (hk : k < Ls.length) : ∃ b o c sv, v = .slice (some ⟨b, o, none⟩) Ls.length c ∧ w.cell? ⟨b, o + k, none⟩ = some sv ∧ IsBytes w sv Ls[k] := by
  rcases h with ⟨_, rfl⟩ | ⟨a, c, hv, hc⟩
  · simp at hk
  · obtain ⟨s0, g0, _⟩ := hc 0 (by omega)
    obtain ⟨b, o, e1, e2⟩ := plainAddr (k := k) g0
    obtain ⟨sv, h1, h2⟩ := hc k hk
    rw [e2] at h1
    rw [e1] at hv
    exact ⟨b, o, c, sv, hv, h1, h2⟩
theorem IsBytes.at {w : World} {v : Value} {l : List UInt8} (h : IsBytes w v l) (hk : 0 < l.length) : ∃ b o c, v = .slice (some ⟨b, o, none⟩) l.length c ∧ ∀ k (hk : k < l.length), w.cell? ⟨b, o + k, none⟩ = some (.int .u8 (l[k].toNat : Int)) := by
  rcases h with ⟨_, rfl⟩ | ⟨a, c, hv, hc⟩
  · simp at hk
  · have g0 := hc 0 hk
    obtain ⟨b, o, e1, _⟩ := plainAddr (k := 0) g0
    subst e1
    exact ⟨b, o, c, hv, fun k hk => by have := hc k hk; rwa [Addr.add_lit] at this⟩
def sumLen : List (List UInt8) → Nat
  | [] => 0
  | x :: r => x.length + sumLen r
theorem sumLen_take : ∀ (Ls : List (List UInt8)) (k : Nat) (hk : k < Ls.length), sumLen (Ls.take (k + 1)) = sumLen (Ls.take k) + Ls[k].length
  | [], k, hk => by simp at hk
  | x :: r, 0, _ => by simp [sumLen]
  | x :: r, k + 1, hk => by
    have := sumLen_take r k (by simpa using hk)
    simp only [List.take_succ_cons, sumLen, List.getElem_cons_succ]
    omega
theorem sumLen_le : ∀ (Ls : List (List UInt8)) (k : Nat), sumLen (Ls.take k) ≤ sumLen Ls
  | [], k => by simp
  | x :: r, 0 => by simp [sumLen]
  | x :: r, k + 1 => by
    have := sumLen_le r k
    simp only [List.take_succ_cons, sumLen]
    omega
theorem sumLen_flat : ∀ (Ls : List (List UInt8)), Ls.flatten.length = sumLen Ls
  | [] => rfl
  | x :: r => by simp [sumLen, sumLen_flat r]

theorem cellsWeight_c (v : Value) (Ls : List (List UInt8)) (w : World) (h : IsCells w v Ls) (hn : Ls.length ≤ 9223372036854775807) (hl : ∀ l ∈ Ls, l.length ≤ 140737488355328) :
    Calls Tryz.prog 19 #[v] w fun e w' => ∃ r : Nat, e = .returned (.int .i64 r) ∧ w = w' ∧ (r < 1048576 → r = Ls.length + sumLen Ls) := by
  obtain ⟨ao, c, rfl⟩ := h.form
  have H := Lib.hid h
  have HL := Lib.hid hl
  clear h hl
  go_enter Tryz.func19, Tryz.ntmps19
  go_wp2
  go_loop [3, 4] (fun n i => ∃ k N : Nat, k ≤ Ls.length ∧ i = .int .i64 k ∧ n = .int .i64 (N : Int) ∧ Hid (N = Ls.length + sumLen (Ls.take k)) ∧ Hid (N ≤ 9223372036854775807)) (fun _ i => Ls.length - (intOf i).toNat)
  case atStart => exact ⟨0, Ls.length, Nat.zero_le _, rfl, rfl, by show _ = _; simp [sumLen], by show _ ≤ _; omega⟩
  case round =>
    obtain ⟨k, N, hk, rfl, rfl, HN, HB⟩ := hrel
    by_cases hlt : k < Ls.length
    · by_cases hs : N < 1048576
      · have g1 : decide ((N : Int) < 1048576) = true := decide_eq_true (by omega)
        obtain ⟨b, o, c2, sv, hv, hc, hy⟩ := H.out.at k hlt
        injection hv with hv _ hv2
        subst hv hv2
        obtain ⟨ay, cy, rfl⟩ := hy.form
        have hll := HL.out _ (List.getElem_mem hlt)
        have hst := sumLen_take Ls k hlt
        have HY := Lib.hid hy
        have HN2 : Hid (N + Ls[k].length = Ls.length + sumLen (Ls.take (k + 1))) := by show _ = _; rw [hst, HN.out]; omega
        have HB2 : Hid (N + Ls[k].length ≤ 9223372036854775807) := by show _ ≤ _; omega
        have s1 : IntKind.i64.wrap ((N : Int) + (Ls[k].length : Int)) = ((N + Ls[k].length : Nat) : Int) := by rw [IntWalk.i64_in _ (by omega)]; omega
        have HS := Lib.hid hs
        clear hy hst hll hs
        generalize Ls[k] = x at *
        generalize x.length = xl at *
        go_wp2
        go_round
        case rel => exact ⟨k + 1, N + xl, by omega, by go_num, by go_num, HN2, HB2⟩
        case measure => simp [intOf]; omega
      · have g1 : decide ((N : Int) < 1048576) = false := decide_eq_false (by omega)
        have HS := Lib.hid hs
        clear hs
        go_wp2
        go_ret
        exact ⟨N, rfl, rfl, fun h => absurd h HS.out⟩
    · have hke : k = Ls.length := by omega
      subst hke
      go_wp2
      go_ret
      exact ⟨N, rfl, rfl, fun _ => by rw [HN.out, List.take_length]⟩

end Go.Proofs.YthbofddadgmghaaGreatDoor
