/- What the rows' listed variables give the walks (Env), and the frame of a row's proof. -/
import Derived.Test.YthbofddadgmghaaGreatDoorRows
import Derived.Test.YthbofddadgmghaaGreatDoorA3
import Derived.Test.YthbofddadgmghaaGreatDoorShelf
import Derived.ProofKit
import Derived.LaidMore
import Derived.Lay
import Derived.OpenShut
import Derived.Stop.Joined
import Derived.HandedShaped
import Derived.Lib.LaidU8
import Derived.Lib.SmallJoins
import Derived.Carry
set_option linter.unusedVariables false
set_option linter.unusedSimpArgs false
namespace Go.Proofs.YthbofddadgmghaaGreatDoor
open Go.ChangeShapes Go.WideShapes Go.ChangeAt Go.RowKit Go.Lib

/-- The list of variables that each row of this seat names. -/
def laidL : List (String × DataW Unit) := Rows.peerTakesRow.laid
theorem ownK : ownKnob Tryz.prog.godebug = none := by kernel_rfl
theorem laidOut : laidOutB Tryz.prog = true := by kernel_rfl
theorem u8extra : U8Extra Tryz.prog Tryz.lays260_ren := ⟨by kernel_rfl, by kernel_rfl, by kernel_rfl, by kernel_rfl, by kernel_rfl, by kernel_rfl, by kernel_rfl⟩
theorem first_is : (Rows.laid_unicode_utf8_first : DataW Unit) = firstData := by kernel_rfl
theorem accept_is : (Rows.laid_unicode_utf8_acceptRanges : DataW Unit) = acceptData := by kernel_rfl
theorem pow_is : (Rows.laid_internal_strconv_uint64pow10 : DataW Unit) = tabData .u64 pow10Tab := by kernel_rfl

set_option maxRecDepth 20000 in
/-- A variable of interface type that reads as an interface of a named type holds one. -/
theorem iface_of_reads {name : String} {n : String} {d : DataW Unit} {W : World} (hty : ∀ g, Tryz.prog.globalNamed name = some g → ∃ t ms, (Tryz.prog.globals[g]?).map (·.type) = some t ∧ Tryz.prog.underlying t = some (.interface ms))
    (h : VarReads Tryz.prog W name (.iface n d)) : ∃ t p, W.var? Tryz.prog name = some #[.iface t p] := by
  obtain ⟨g, t, cs, fuel, p, hg, ht, hv, hd⟩ := h
  obtain ⟨t', ms, ht', hu⟩ := hty g hg
  obtain rfl := Option.some.inj (ht.symm.trans ht')
  refine ?_
  rw [hv]
  obtain ⟨l⟩ := cs
  cases fuel with
  | zero => simp [DataW.trod] at hd
  | succ fuel =>
    simp only [DataW.trod, hu] at hd
    match l, hd with
    | [.iface u v], hd => exact ⟨u, v, rfl⟩
    | [.nilIface], hd => simp at hd
theorem errTy (name : String) (h : (Tryz.prog.globalNamed name = some 3) ∨ (Tryz.prog.globalNamed name = some 4)) : ∀ g, Tryz.prog.globalNamed name = some g → ∃ t ms, (Tryz.prog.globals[g]?).map (·.type) = some t ∧ Tryz.prog.underlying t = some (.interface ms) := by
  intro g hg
  have e3 : ∃ ms, Tryz.prog.underlying 234 = some (.interface ms) := ⟨_, Tryz.underlying234⟩
  obtain ⟨ms, hms⟩ := e3
  rcases h with h | h
  · obtain rfl := Option.some.inj (h.symm.trans hg)
    exact ⟨234, ms, by kernel_rfl, hms⟩
  · obtain rfl := Option.some.inj (h.symm.trans hg)
    exact ⟨234, ms, by kernel_rfl, hms⟩

theorem env_of_laid {W : World} (h : laidMetH Tryz.prog laidL W) (hsh : W.ShapedOpen Tryz.prog) : Env W := by
  rw [MakeChecks.laidMetH_plain _ _ _ (by kernel_rfl)] at h
  have hr := fun n d hm => laidMet.reads h (n := n) (d := d) hm
  have h64 := hr "math/bits.deBruijn64tab" Rows.laid_math_bits_deBruijn64tab (.tail _ (.head _))
  have hpow := hr "internal/strconv.uint64pow10" Rows.laid_internal_strconv_uint64pow10 (.tail _ (.tail _ (.head _)))
  have hacc := hr "unicode/utf8.acceptRanges" Rows.laid_unicode_utf8_acceptRanges (.tail _ (.tail _ (.tail _ (.head _))))
  have hrng := hr "strconv.ErrRange" Rows.laid_strconv_ErrRange (.tail _ (.tail _ (.tail _ (.tail _ (.head _)))))
  have hsyn := hr "strconv.ErrSyntax" Rows.laid_strconv_ErrSyntax (.tail _ (.tail _ (.tail _ (.tail _ (.tail _ (.head _))))))
  have hfst := hr "unicode/utf8.first" Rows.laid_unicode_utf8_first (.tail _ (.tail _ (.tail _ (.tail _ (.tail _ (.tail _ (.head _)))))))
  refine ⟨?_, Tryz.laysM145.s1_3 W hsh, ?_, ?_, ?_, ?_⟩
  · obtain ⟨g, t, cs, fuel, p, hg, ht, hv, hd⟩ := h64
    obtain rfl := Option.some.inj ((show Tryz.prog.globalNamed "math/bits.deBruijn64tab" = some 8 by kernel_rfl).symm.trans hg)
    unfold World.var? at hv
    rw [hg] at hv
    simp only [Option.bind_some] at hv
    rcases Nat.lt_or_ge 8 W.heap.size with h8 | h8
    · omega
    · rw [Array.getElem?_eq_none h8] at hv; cases hv
  · rw [pow_is] at hpow
    obtain ⟨g, t, cs, fuel, p, hg, hty, hvar, hd⟩ := hpow
    obtain rfl := Option.some.inj (named2.symm.trans hg)
    have e1 : (Tryz.prog.globals[2]?).map (·.type) = some 314 := by kernel_rfl
    obtain rfl := Option.some.inj (e1.symm.trans hty)
    have hcs := cells_of_tab (n := 20) (e := 212) Tryz.underlying314 Tryz.underlying212 (by kernel_rfl) (by kernel_rfl) hd
    unfold TabIs
    rw [hvar, ← hcs]
  · exact iface_of_reads (errTy _ (.inl named3)) hsyn
  · exact iface_of_reads (errTy _ (.inr named4)) hrng
  · rw [first_is] at hfst
    rw [accept_is] at hacc
    exact utf8Tabs_of_reads Tryz.lays260 u8extra hfst hacc

end Go.Proofs.YthbofddadgmghaaGreatDoor
