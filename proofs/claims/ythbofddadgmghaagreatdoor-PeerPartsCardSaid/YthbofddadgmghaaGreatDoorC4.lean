/- The law PeerParts: all cells put together. -/
import Derived.Test.YthbofddadgmghaaGreatDoorC3
import Derived.Laws.AppendOwnNone
set_option linter.unusedVariables false
set_option linter.unusedSimpArgs false
namespace Go.Proofs.YthbofddadgmghaaGreatDoor
open Go.RowKit Go.Shelf

theorem bytes_news {w : World} {a : Addr} {l : List UInt8} (h : ∀ i (h : i < l.length), w.cell? (a.add i) = some (.int .u8 (l[i].toNat : Int))) : ∀ j u, (Lib.byteCells l)[j]? = some u → w.cell? (a.add j) = some u := by
  intro j u hj
  have hjl : j < l.length := by
    rcases Nat.lt_or_ge j l.length with h | h
    · exact h
    · rw [List.getElem?_eq_none (by simpa [Lib.byteCells] using h)] at hj; cases hj
  rw [h j hjl]
  simpa [Lib.byteCells, hjl] using hj
theorem bytes_one (l : List UInt8) : ∀ u ∈ Lib.byteCells l, u.oneCell' = true := by
  intro u hu
  obtain ⟨x, _, rfl⟩ := List.mem_map.1 hu
  rfl
theorem owns_bytes {w : World} {B : Nat} {v : Value} {l : List UInt8} (h : w.ownsRow B 5 1 v l.length (Lib.byteCells l)) : IsBytes w v l := by
  have hc := fun g hg => h.cells (g := g) hg
  rcases h.2 with ⟨h1, h2⟩ | ⟨g, cap, cur, hv, _⟩
  · exact .inl ⟨h1, List.eq_nil_of_length_eq_zero h2⟩
  · exact .inr ⟨⟨g, 0, none⟩, cap, hv, fun i hi => hc g (by rw [hv]; rfl) i (.int .u8 (l[i].toNat : Int)) (by simp [Lib.byteCells, hi])⟩

end Go.Proofs.YthbofddadgmghaaGreatDoor
