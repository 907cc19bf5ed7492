/- The law PeerParts: the tied card. What is proved: whatever is read, PeerParts answers true, and leaves its argument as it was; the listed package-level variables are tied to the program's text. -/
import Derived.Test.YthbofddadgmghaaGreatDoorE5
import Derived.Test.YthbofddadgmghaaGreatDoorCards
import Derived.Test.YthbofddadgmghaaGreatDoorTie
import Derived.SevenTiedAt
namespace Go.Proofs.YthbofddadgmghaaGreatDoor
open Go

theorem peerParts_card_holds : Rows.PeerPartsCardSaid :=
  Claim7.holds_tied_plain_at .later [] [.data, .data, .data, .data, .sentinel, .sentinel, .pinned] true (true, "97be2db6dd80fe23b3ba1ef0e3c4d6ccdb50f71b7e5ff9279210252b2cbe4141") true
    peerParts_holds (fun _ h => by cases h) (by as_aux_lemma => kernel_rfl) (fun _ h => by cases h) peerParts_row_tie rfl ⟨rfl, rfl⟩ (by as_aux_lemma => kernel_rfl) rfl
    (fun f fn hf hfn => by
      obtain rfl : f = 5 := Option.some.inj (peerParts_named.symm.trans hf) |>.symm
      obtain rfl : fn = Tryz.f5 := (Option.some.inj (Tryz.func5.symm.trans hfn)).symm
      exact ⟨by as_aux_lemma => kernel_rfl, fun j t ht => by
        rw [Tryz.params5] at ht
        have hm : t ∈ [25] := by simpa using Array.mem_of_getElem? ht
        have hall : ([25].all fun u => !Tryz.prog.wantsStandIn u) = true := by as_aux_lemma => kernel_rfl
        exact (show Tryz.prog.wantsStandIn t = false by simpa using List.all_eq_true.1 hall t hm)⟩)
    (by as_aux_lemma => kernel_rfl)
#print axioms peerParts_card_holds
end Go.Proofs.YthbofddadgmghaaGreatDoor
