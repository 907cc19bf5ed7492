/- The law PeerParts: the row. -/
import Derived.Test.YthbofddadgmghaaGreatDoorC5
import Derived.Test.YthbofddadgmghaaGreatDoorD2
import Derived.Test.YthbofddadgmghaaGreatDoorJ5
set_option linter.unusedVariables false
set_option linter.unusedSimpArgs false
namespace Go.Proofs.YthbofddadgmghaaGreatDoor
open Go.ChangeShapes Go.WideShapes Go.ChangeAt Go.RowKit Go.Lib

theorem script27_ts : Tryz.prog.cellTypes Tryz.prog.depth 25 = some [4, 22, 23] := by kernel_rfl
set_option maxRecDepth 100000 in
theorem peerParts_lifted (os : Os) (started : os.Started) (H : Type) (enc : TypeId × Value → H) :
    ReturnsInHanded {} Tryz.checked os 5 .any (fun w args => (Rows.peerPartsSpec.pre enc Tryz.prog Tryz.f5 [] false w args ∧ laidMetH Tryz.prog laidL w) ∧ sizedMet enc Tryz.prog Tryz.f5 (OpenSpec.ofChange Rows.peerPartsSpec) false w args)
      (Rows.peerPartsSpec.post enc Tryz.prog Tryz.f5 false true false false) := by
  refine lift_shaped (C := Tryz.checked) (X := fun w _ => laidMetH Tryz.prog laidL w) (fun _ _ _ hh h => h.of_heap hh) ownK started (by kernel_rfl) Tryz.func5
    (ChangeSpec.witness_shaped (enc := enc) (C := Tryz.checked) (os := os) (X := fun w _ => laidMetH Tryz.prog laidL w) false (World.laidAll Tryz.prog os laidL) #[.agg #[.bool false, .slice none 0 0, .slice none 0 0]] 8 (World.laidAll_os _ _ _)
      (World.shaped_of_ZipB (by kernel_rfl) (by kernel_rfl)) (by kernel_rfl) (by kernel_rfl) (by kernel_rfl)
      (by rw [MakeChecks.laidMetH_plain _ _ _ (by kernel_rfl)]; exact laidMet_laidAll _ (by kernel_rfl) (by kernel_rfl))) ?_
  intro W base args ds gs before hval0 hW hwt hL hsh
  have hval : ∀ (j : Nat) t v, Tryz.f5.params[j]? = some t → args[j]? = some v → Value.okWide Tryz.prog W .any base t v := hval0
  have hW' := hW
  obtain ⟨p, q, hA0, hV, rfl, _, _⟩ := hW
  have hA : DataW.TrodAll enc Tryz.prog W 0 (fun _ => true) true Tryz.f5.params.toList args.toList ds p := hA0
  have hlt := hA.lt
  have hwt2 : (DataW.weightsEach Tryz.prog (Tryz.f5.params.toList ++ Rows.peerPartsSpec.plain.varTypes Tryz.prog) (ds ++ gs)).all (· ≤ reachBytes) = true := hwt
  rw [Tryz.params5] at hA hval hwt2
  obtain ⟨v0, d0, rfl, rfl, h0⟩ := trodAll_one hA
  obtain ⟨rfl, rfl⟩ := trodVars_none hV
  have hw0 : Wt 25 d0 := Wt.ofRow hwt2
  have hE := env_of_laid hL hsh
  have hok := hval 0 25 v0 rfl rfl
  obtain ⟨x0, x1, x2, y0, y1, y2, n, rfl, hd, hp, t0, t1, t2⟩ := Joins.open_agg3 Tryz.underlying25 (by kernel_rfl) (by kernel_rfl) hok h0
  rw [hd] at hw0
  have w1 : Wt 22 y1.1 := hw0.part Tryz.underlying25 1 rfl rfl
  have w2 : Wt 23 y2.1 := hw0.part Tryz.underlying25 2 rfl rfl
  obtain ⟨lm, e0, _⟩ := DataW.trod_bool Tryz.underlying4 t0
  obtain ⟨rs, hR, hrl, _⟩ := open_intsP t1 (ok_part Tryz.underlying25 script27_ts hok (i := 1) rfl rfl) w1
  obtain ⟨Ls, hLs, hll, hln⟩ := open_cells t2 w2
  obtain rfl : x0 = .bool lm := by injection e0
  refine (parts_walk lm x1 x2 rs Ls W hE hR hLs (by omega) (by omega) (fun l hl => by have := hll l hl; omega)).mono fun e W' ⟨he, bel⟩ => ?_
  subst he
  exact ⟨_, rfl, _, _, _, [], _, [], hW', trodAll_mk1 (shut_bool Tryz.underlying4 _), trodAll_mk1 (Below.trod laidOut (by kernel_rfl) (of_decide_eq_true (by kernel_rfl)) h0 bel (fun x hx => hlt x hx)), rfl, bel.frame _, fun h => by cases h⟩

theorem peerParts_holds : Rows.PeerPartsSaid :=
  OpenClaim.holds_of_wide 5 Tryz.f5 rfl rfl rfl rfl rfl rfl rfl ⟨rfl, rfl, rfl, rfl, rfl⟩ rfl rfl rfl rfl rfl peerParts_named Tryz.func5 peerParts_joined
    peerParts_instance peerParts_wrapper
    (fun os started H enc _ => peerParts_lifted os started H enc)

#print axioms peerParts_holds
end Go.Proofs.YthbofddadgmghaaGreatDoor
