/- The law PeerParts: its walk. -/
import Derived.Test.YthbofddadgmghaaGreatDoorC4
import Derived.Test.YthbofddadgmghaaGreatDoorC6
import Derived.Deep.RegionHeld3
import Derived.Deep.CutBlock
import Derived.Deep.DeepCutAuto
set_option linter.unusedVariables false
set_option linter.unusedSimpArgs false
namespace Go.Proofs.YthbofddadgmghaaGreatDoor
open Go.RowKit Go.Shelf

theorem info5' : (Tryz.prog.info? 5).map (fun i => (i.zero, i.size, i.bytes)) = some (some (.int .u8 0), 1, 1) := by kernel_rfl
set_option maxHeartbeats 2000000 in
set_option maxRecDepth 8000 in
theorem parts_walk (lm : Bool) (rv lv : Value) (rs : List Int) (Ls : List (List UInt8)) (w : World) (hE : Env w) (hR : IsInts w rv rs) (hL : IsCells w lv Ls) (hrn : rs.length ≤ 9223372036854775807) (hn : Ls.length ≤ 9223372036854775807) (hl : ∀ l ∈ Ls, l.length ≤ 140737488355328) :
    Calls Tryz.prog 5 #[.agg #[.bool lm, rv, lv]] w fun e w' => e = .returned (.bool true) ∧ Below w.heap.size w w' := by
  obtain ⟨i0, hi, hz0, hz1, hz2⟩ := info_parts info5'
  have hB1 := belowAlloc w (.cells #[.bool lm, rv, lv] 25)
  have hE1 := hE.below hB1
  have x0 : (w.alloc (.cells #[.bool lm, rv, lv] 25)).cell? ⟨w.heap.size, 0, none⟩ = some (.bool lm) := by rw [cell_alloc_new]; rfl
  have x1 : (w.alloc (.cells #[.bool lm, rv, lv] 25)).cell? ⟨w.heap.size, 1, none⟩ = some rv := by rw [cell_alloc_new]; rfl
  have x2 : (w.alloc (.cells #[.bool lm, rv, lv] 25)).cell? ⟨w.heap.size, 2, none⟩ = some lv := by rw [cell_alloc_new]; rfl
  have hbx : w.heap.size < (w.alloc (.cells #[.bool lm, rv, lv] 25)).heap.size := by simp
  obtain ⟨ar, cr, hrv⟩ : ∃ ar cr, rv = .slice ar rs.length cr := by
    rcases hR with ⟨h1, h2⟩ | ⟨r, o, c, h1, _⟩
    · exact ⟨_, _, by rw [h1, h2]; rfl⟩
    · exact ⟨_, _, h1⟩
  obtain ⟨al, cl, hlv⟩ := hL.form
  have hw := cellsWeight_c lv Ls _ (hL.below hB1) hn hl
  by_cases h500 : rs.length ≤ 500
  · have g1 : decide ((500 : Int) < (rs.length : Int)) = false := decide_eq_false (by omega)
    have hR0 : ∀ W, Below w.heap.size w W → IsInts W rv rs := by
      intro W hW
      rcases hR with h | ⟨r, o, c, h1, h2⟩
      · exact .inl h
      · exact .inr ⟨r, o, c, h1, fun j hj => cellsAt (h2 j hj) hW⟩
    have HR := Lib.hid hR0
    have HL := Lib.hid hL
    have HLL := Lib.hid hl
    clear hR hL hl hR0
    subst hrv hlv
    go_enter Tryz.func5, Tryz.ntmps5
    go_wp2_with fail
    generalize hW1 : w.alloc (.cells #[.bool lm, .slice ar rs.length cr, .slice al Ls.length cl] 25) = W1 at *
    refine hw.mono ?_
    rintro e w1 ⟨r, rfl, rfl, hr⟩
    by_cases h5 : r ≤ 5000
    · have g2 : decide ((5000 : Int) < (r : Int)) = false := decide_eq_false (by omega)
      have hsum : Ls.length + sumLen Ls ≤ 5000 := by have := hr (by omega); omega
      have HSUM := Lib.hid hsum
      clear hw hr hsum hn hrn
      have HB1 := Lib.hid hB1
      go_upto_block 0 with fail
      go_cut [3, 4] (fun va i wx => ∃ v', va = v' ∧ wx.ownsRow W1.heap.size 5 1 v' (Ls.take 20).flatten.length (Lib.byteCells (Ls.take 20).flatten) ∧ (Ls.take 20).flatten.length ≤ 5000 ∧ Below W1.heap.size W1 wx)
      case first =>
        go_wp2
        go_loopw [3, 4] (fun va i wr => ∃ (k : Nat) (v' : Value), k ≤ Ls.length ∧ k ≤ 20 ∧ i = .int .i64 k ∧ va = v' ∧ wr.ownsRow W1.heap.size 5 1 v' (Ls.take k).flatten.length (Lib.byteCells (Ls.take k).flatten) ∧ Below W1.heap.size W1 wr) (fun _ i _ => 20 - (intOf i).toNat)
        case atStart => exact ⟨0, _, Nat.zero_le _, Nat.zero_le _, rfl, rfl, World.ownsRow_nil _ _ _ _, Below.refl _ _⟩
        case round =>
          obtain ⟨k, v', hk, hk20, rfl, rfl, hown, hB⟩ := hrel
          have y2 := cellsAt x2 hB
          by_cases hlt : k < Ls.length ∧ k < 20
          · obtain ⟨l1, l2⟩ := hlt
            have q1 : decide ((k : Int) < (Ls.length : Int)) = true := decide_eq_true (by omega)
            have q2 : decide ((k : Int) < 20) = true := decide_eq_true (by omega)
            have hLr := (HL.out.below hB1).below hB
            obtain ⟨b, o, c2, sv, hv, hc, hy⟩ := hLr.at k l1
            injection hv with hv _ hv2
            subst hv hv2
            have hfl : (Ls.take (k + 1)).flatten = (Ls.take k).flatten ++ Ls[k] := by rw [List.take_succ_eq_append_getElem l1, List.flatten_append, List.flatten_cons, List.flatten_nil, List.append_nil]
            have hsz : (Ls.take (k + 1)).flatten.length ≤ 5000 := by rw [sumLen_flat]; have := sumLen_le Ls (k + 1); have := HSUM.out; omega
            have HFL := Lib.hid hfl
            have HSZ := Lib.hid hsz
            have hszl : (Ls.take k).flatten.length + Ls[k].length ≤ 5000 := by rw [hfl, List.length_append] at hsz; exact hsz
            have HSL := Lib.hid hszl
            clear hfl hsz hLr hszl
            generalize Ls[k] = x at *
            generalize (Ls.take k).flatten = fl at *
            rcases hy with ⟨rfl, rfl⟩ | ⟨a2, c3, rfl, hx⟩
            · go_wp2_with (at_builtin; refine wpList_append_own_none rfl _ _ 33 rfl W1.heap.size 5 i0 1 Tryz.underlying33 hi _ _ _ rfl hown rfl ?_)
              go_wp2
              go_roundw
              case rel => exact ⟨k + 1, u3, by omega, by omega, by go_num, rfl, by rw [HFL.out]; simpa using hown, hB⟩
              case measure => simp [intOf]; omega
            · have hnews := bytes_news hx
              have HX := Lib.hid hnews
              clear hx hnews
              go_wp2_with (at_builtin; refine wpList_append_own _ rfl _ _ 33 rfl W1.heap.size 5 i0 (.int .u8 0) 1 1 Tryz.underlying33 hi hz0 hz1 hz2 rfl (by decide) _ _ _ rfl hown a2 x.length c3 (Lib.byteCells x) rfl (by simp [Lib.byteCells]) HX.out (bytes_one x) (by have := HSL.out; unfold maxLen; omega) (by have := HSL.out; omega) hB.size ?_)
              intro v2 w2 hown2 hgr _
              have hB2 := hB.grown hgr hB.size (fun j hj => (hown.lt j hj).1)
              clear hown hgr
              go_wp2
              go_roundw
              case rel => exact ⟨k + 1, v2, by omega, by omega, by go_num, rfl, by rw [HFL.out, List.length_append]; simpa [Lib.byteCells] using hown2, hB2⟩
              case measure => simp [intOf]; omega
          · have hke : Ls.take k = Ls.take 20 ∧ ((decide ((k : Int) < (Ls.length : Int)) = false) ∨ (decide ((k : Int) < (Ls.length : Int)) = true ∧ decide ((k : Int) < 20) = false)) := by
              by_cases hkl : k < Ls.length
              · have : k = 20 := by omega
                subst this
                exact ⟨rfl, .inr ⟨decide_eq_true (by omega), by decide⟩⟩
              · exact ⟨by rw [List.take_of_length_le (by omega), List.take_of_length_le (by omega)], .inl (decide_eq_false (by omega))⟩
            obtain ⟨hke, hqq⟩ := hke
            rw [hke] at hown
            have hal : (Ls.take 20).flatten.length ≤ 5000 := by rw [sumLen_flat]; have := sumLen_le Ls 20; have := HSUM.out; omega
            clear hke
            rcases hqq with q1 | ⟨q1, q2⟩
            · go_wp2
              all_goals
                go_meet
                exact ⟨_, rfl, hown, hal, hB⟩
            · go_wp2
              all_goals
                go_meet
                exact ⟨_, rfl, hown, hal, hB⟩
      case rest =>
        obtain ⟨v', rfl, hown, hal, hB⟩ := hcut
        obtain ⟨Wc, rfl⟩ : ∃ Wc : World, Wc = wc := ⟨_, rfl⟩
        have hEc := hE1.below hB
        have z0 := cellsAt x0 hB
        have z1 := cellsAt x1 hB
        have hnew : ∀ W, Below Wc.heap.size Wc W → Calls Tryz.prog 20 #[.bool lm, .slice ar rs.length cr] W fun e w' => ∃ b rv, e = .returned (.pointer (some ⟨b, 0, none⟩)) ∧ W.heap.size ≤ b ∧ w'.heap.size = b + 1 ∧ PeerRow (fun k => b ≤ k) (fun k => k < 9 ∨ (W.heap.size ≤ k ∧ k < b)) b (PeerS.new lm rs) rv (.slice none 0 0) (.slice none 0 0) w' ∧ Below W.heap.size W w' := by
          intro W hW
          have hb := (HB1.out.trans (hB.mono HB1.out.size)).trans (hW.mono (Nat.le_trans HB1.out.size hB.size))
          exact New_c lm _ rs W (hE.below hb) (HR.out W hb) (by omega)
        have HNEW := Lib.hid hnew
        have HOWN := Lib.hid hown
        have HAL := Lib.hid hal
        have HB := Lib.hid hB
        clear hown hal hB hnew
        go_upto_region 8 with fail
        go_cut [5, 6, 7] (fun a b c wx => ∃ b1 b2 b3, a = .pointer (some ⟨b1, 0, none⟩) ∧ b = .pointer (some ⟨b2, 0, none⟩) ∧ c = .pointer (some ⟨b3, 0, none⟩) ∧ TrioAt Wc b1 b2 b3 (PeerS.new lm rs) (PeerS.new lm rs) (PeerS.new lm rs) wx)
        case first =>
          go_region_held3 (fun w' => w'.cell? ⟨w.heap.size, 0, none⟩ = some (.bool lm) ∧ w'.cell? ⟨w.heap.size, 1, none⟩ = some (.slice ar rs.length cr)) (first | exact ⟨c31, d31⟩ | exact ⟨c21, d21⟩ | exact ⟨c11, d11⟩ | exact ⟨z0, z1⟩)
              (first
                | (go_at_call 20; refine (HNEW.out _ hN2).mono ?_; rintro e w3 ⟨b3, rv3, rfl, hb3, hz3, hr3, hB3⟩; have hN3 := bThen hN2 (Nat.le_refl _) hB3; have c31 := cellsAt z0 hN3; have d31 := cellsAt z1 hN3)
                | (go_at_call 20; refine (HNEW.out _ hN1).mono ?_; rintro e w2 ⟨b2, rv2, rfl, hb2, hz2, hr2, hB2⟩; have hN2 := bThen hN1 (Nat.le_refl _) hB2; have c21 := cellsAt z0 hN2; have d21 := cellsAt z1 hN2)
                | (go_at_call 20; refine (HNEW.out _ (Below.refl _ _).drew).mono ?_; rintro e w1 ⟨b1, rv1, rfl, hb1, hz1, hr1, hB1⟩; have hN1 := (Below.refl Wc.heap.size Wc).drew.trans hB1; have c11 := cellsAt z0 hN1; have d11 := cellsAt z1 hN1))
          all_goals
            have hT0 := Trio.start hr1 hEc.size hb1 hz1 hB2 hr2 hb2 hz2 hB3 hr3 hb3 hz3
            have hT : TrioAt Wc b1 b2 b3 (PeerS.new lm rs) (PeerS.new lm rs) (PeerS.new lm rs) w3 := ⟨_, _, fun k hk => by (have := hN1.size; have := hN2.size; have := hN3.size; simp at hb1; refine ⟨?_, ?_, ?_, ?_⟩ <;> omega), hN3, hT0⟩
            clear hT0 hr1 hr2 hr3
            go_wp2_with fail
            go_meet
            first
              | exact ⟨_, _, _, rfl, rfl, rfl, hT⟩
              | exact ⟨_, _, _, rfl, rfl, rfl, hT.rot⟩
              | exact ⟨_, _, _, rfl, rfl, rfl, hT.rot.rot⟩
              | exact ⟨_, _, _, rfl, rfl, rfl, hT.swap⟩
              | exact ⟨_, _, _, rfl, rfl, rfl, hT.swap.rot⟩
              | exact ⟨_, _, _, rfl, rfl, rfl, hT.swap.rot.rot⟩
        case rest =>
          obtain ⟨b1, b2, b3, rfl, rfl, rfl, hT⟩ := hcut
          have hby := owns_bytes HOWN.out
          have hcl := hT.under
          have hform := fun (h : 0 < (Ls.take 20).flatten.length) => HOWN.out.form h
          have hcells := fun (g : Nat) (hg : u3.ownBlock = some g) => HOWN.out.cells hg
          have hallL : Hid ((Ls.take 20).flatten = (Ls.take 20).flatten) := rfl
          obtain ⟨a3, c3, rfl⟩ := row_form HOWN.out
          have hcap := row_cap HOWN.out
          have hx := hT.hear hEc (sound_new lm rs) (by decide) (hby.below hcl) (by have := HAL.out; omega)
          have hsx := (sound_new lm rs).hear (Ls.take 20).flatten
          have hX := hears_same lm rs (((Ls.take 20).flatten).map fun c => [c])
          have hZ := hears_same lm rs (Ls.take 20)
          rw [singles_flat] at hX
          have hgot3 := got_hear (PeerS.new lm rs) (Ls.take 20).flatten rfl
          clear hcl hT
          generalize hall : (Ls.take 20).flatten = all at *
          have HALL := Lib.hid hall
          have HX := Lib.hid hX
          have HZ := Lib.hid hZ
          have HG3 := Lib.hid hgot3
          have HBY := Lib.hid hby
          have HFORM := Lib.hid hform
          have HCELLS := Lib.hid hcells
          have hn5 : all.length ≤ 5000 := HAL.out
          clear hall hX hZ hgot3 hby hform hcells hallL HOWN
          generalize (PeerS.new lm rs).hear all = X at *
          go_wp2_with fail
          refine hx.mono ?_
          rintro e w4 ⟨rfl, hT⟩
          have HSX := Lib.hid hsx
          clear hx hsx
          have HS1 : Hid ((PeerS.hears ((all.drop 0).map fun c => [c]) (PeerS.new lm rs)).1.got = X.got ∧ [] ++ (PeerS.hears ((all.drop 0).map fun c => [c]) (PeerS.new lm rs)).2 = X.out) := ⟨by rw [List.drop_zero]; exact HX.out.2, by rw [List.drop_zero]; exact HX.out.1⟩
          have HS2 : Hid ((PeerS.hears ((Ls.take 20).drop 0) (PeerS.new lm rs)).1.got = X.got ∧ [] ++ (PeerS.hears ((Ls.take 20).drop 0) (PeerS.new lm rs)).2 = X.out) := ⟨by rw [List.drop_zero]; exact HZ.out.2, by rw [List.drop_zero]; exact HZ.out.1⟩
          clear HX HZ
          go_upto_block 2 with fail
          go_wp2
          go_loopw [9, 11] (fun b i wr => ∃ (k : Nat) (q : PeerS) (said : List UInt8), k ≤ all.length ∧ i = .int .i64 k ∧ b = .string (str said) ∧ TrioAt Wc b1 b2 b3 X q (PeerS.new lm rs) wr ∧ Sound k q ∧ said.length ≤ k * 400040 ∧ Hid ((PeerS.hears ((all.drop k).map fun c => [c]) q).1.got = X.got ∧ said ++ (PeerS.hears ((all.drop k).map fun c => [c]) q).2 = X.out)) (fun _ i _ => all.length - (intOf i).toNat)
          case atStart => exact ⟨0, PeerS.new lm rs, [], Nat.zero_le _, rfl, rfl, hT, sound_new lm rs, Nat.zero_le _, HS1⟩
          case round =>
            obtain ⟨k, q, said, hk, rfl, rfl, hT, hsq, hsl, HH⟩ := hrel
            by_cases hlt : k < all.length
            · obtain ⟨g, cap, hv, hg0, hg1⟩ := HFORM.out (by omega)
              injection hv with hv _ hv2
              subst hv hv2
              have hcell := HCELLS.out g rfl k (.int .u8 (all[k].toNat : Int)) (by simp [Lib.byteCells, hlt])
              rw [Addr.add_lit, Nat.zero_add] at hcell
              have hcr := cellsAt hcell hT.under
              have hnew : ∀ cc, IsBytes wr (.slice (some ⟨g, k, none⟩) 1 cc) [all[k]] := fun cc => .inr ⟨⟨g, k, none⟩, cc, rfl, fun i hi => by
                obtain rfl : i = 0 := by simpa using hi
                rw [Addr.add_lit]
                exact hcr⟩
              have hH := HH.out
              rw [List.drop_eq_getElem_cons hlt, List.map_cons] at hH
              generalize all[k] = c at *
              have hsq2 := hsq.hear [c]
              have hh := fun cc => hT.swap.hear hEc hsq (by omega) (hnew cc) (by simp)
              have HH2 : Hid ((PeerS.hears ((all.drop (k + 1)).map fun c => [c]) (q.hear [c])).1.got = X.got ∧ (said ++ (q.hear [c]).out) ++ (PeerS.hears ((all.drop (k + 1)).map fun c => [c]) (q.hear [c])).2 = X.out) := ⟨hH.1, by rw [List.append_assoc]; exact hH.2⟩
              have hol := hsq2.small.out
              clear hH HH hcell hcr hT hsq
              generalize q.hear [c] = q2 at *
              have hk0 : (0 : Int) ≤ (k : Int) + 1 := by omega
              go_wp2_with fail
              refine (hh _).mono ?_
              rintro e w5 ⟨rfl, hT2⟩
              have hT3 := hT2.swap
              clear hh hT2
              have hz1 : (str said).size = said.length := str_size _
              have hz2 : (str q2.out).size = q2.out.length := str_size _
              have hs2 : str said ++ str q2.out = str (said ++ q2.out) := str_append _ _
              have HSS := Lib.hid hs2
              have hol2 : q2.out.length ≤ 400040 := by simp at hol; omega
              clear hs2 hol
              go_wp2
              go_roundw
              case rel => exact ⟨k + 1, q2, said ++ q2.out, by omega, by go_num, by rw [← HSS.out], hT3, hsq2, by simp; omega, HH2⟩
              case measure => simp [intOf]; omega
            · have hke : all.drop k = [] := List.drop_eq_nil_of_le (by omega)
              have hH := HH.out
              rw [hke] at hH
              have hY1 : q.got = X.got := hH.1
              have hY2 : said = X.out := by have := hH.2; simpa [PeerS.hears] using this
              have HY1 := Lib.hid hY1
              subst hY2
              clear hke hH HH hY1 HFORM HCELLS HS1
              have hT0 := hT.rot.rot
              have HSQ := Lib.hid hsq
              clear hT hsq
              go_upto_block 4 with fail
              go_cut [10, 12] (fun d i wx => d = .string (str X.out) ∧ ∃ q3, Hid (q3.got = X.got) ∧ (∃ N, N ≤ 5000 ∧ Sound N q3) ∧ TrioAt Wc b3 b1 b2 q3 X q wx)
              case first =>
                go_wp2
                go_loopw [10, 12] (fun b i wr => ∃ (k N : Nat) (q3 : PeerS) (said : List UInt8), k ≤ Ls.length ∧ k ≤ 20 ∧ i = .int .i64 k ∧ b = .string (str said) ∧ TrioAt Wc b3 b1 b2 q3 X q wr ∧ Sound N q3 ∧ N = sumLen (Ls.take k) ∧ said.length ≤ k * 400040 ∧ Hid ((PeerS.hears ((Ls.take 20).drop k) q3).1.got = X.got ∧ said ++ (PeerS.hears ((Ls.take 20).drop k) q3).2 = X.out)) (fun _ i _ => 20 - (intOf i).toNat)
                case atStart => exact ⟨0, 0, PeerS.new lm rs, [], Nat.zero_le _, Nat.zero_le _, rfl, rfl, hT0, sound_new lm rs, rfl, Nat.zero_le _, HS2⟩
                case round =>
                  obtain ⟨k, N, q3, said, hk, hk20, rfl, rfl, hT, hsq3, hN, hsl, HH⟩ := hrel
                  have y2 := cellsAt (cellsAt x2 HB.out) hT.under
                  by_cases hlt : k < Ls.length ∧ k < 20
                  · obtain ⟨l1, l2⟩ := hlt
                    have q1 : decide ((k : Int) < (Ls.length : Int)) = true := decide_eq_true (by omega)
                    have q2 : decide ((k : Int) < 20) = true := decide_eq_true (by omega)
                    have hLr := ((HL.out.below HB1.out).below HB.out).below hT.under
                    obtain ⟨b, o, c2, sv, hv, hc, hy⟩ := hLr.at k l1
                    injection hv with hv _ hv2
                    subst hv hv2
                    have hsl0 := sumLen_take Ls k l1
                    have hsl1 := sumLen_le Ls (k + 1)
                    have hsl2 := HSUM.out
                    have hH := HH.out
                    have hkt : k < (Ls.take 20).length := by rw [List.length_take]; omega
                    rw [List.drop_eq_getElem_cons hkt, List.getElem_take] at hH
                    have hN2 : N + Ls[k].length = sumLen (Ls.take (k + 1)) := by omega
                    have hNc : N + Ls[k].length ≤ 5000 := by omega
                    generalize Ls[k] = c at *
                    have hsq4 := hsq3.hear c
                    have hh := hT.hear hEc hsq3 (by omega) hy (by omega)
                    have HH2 : Hid ((PeerS.hears ((Ls.take 20).drop (k + 1)) (q3.hear c)).1.got = X.got ∧ (said ++ (q3.hear c).out) ++ (PeerS.hears ((Ls.take 20).drop (k + 1)) (q3.hear c)).2 = X.out) := ⟨hH.1, by rw [List.append_assoc]; exact hH.2⟩
                    have hol := hsq4.small.out
                    have HN2 := Lib.hid hN2
                    obtain ⟨ay, cy, rfl⟩ := hy.form
                    clear hH HH hT hsq3 hy hN2 hsl0
                    generalize q3.hear c = q4 at *
                    go_wp2_with fail
                    refine hh.mono ?_
                    rintro e w5 ⟨rfl, hT2⟩
                    clear hh
                    have hz1 : (str said).size = said.length := str_size _
                    have hz2 : (str q4.out).size = q4.out.length := str_size _
                    have hs2 : str said ++ str q4.out = str (said ++ q4.out) := str_append _ _
                    have HSS := Lib.hid hs2
                    have hol2 : q4.out.length ≤ 400040 := by omega
                    clear hs2 hol hN
                    go_wp2
                    go_roundw
                    case rel => exact ⟨k + 1, N + c.length, q4, said ++ q4.out, by omega, by omega, by go_num, by rw [← HSS.out], hT2, hsq4, HN2.out, by simp; omega, HH2⟩
                    case measure => simp [intOf]; omega
                  · have hqq : (decide ((k : Int) < (Ls.length : Int)) = false) ∨ (decide ((k : Int) < (Ls.length : Int)) = true ∧ decide ((k : Int) < 20) = false) := by
                      by_cases hkl : k < Ls.length
                      · exact .inr ⟨decide_eq_true (by omega), decide_eq_false (by omega)⟩
                      · exact .inl (decide_eq_false (by omega))
                    have hke : (Ls.take 20).drop k = [] := List.drop_eq_nil_of_le (by rw [List.length_take]; omega)
                    have hH := HH.out
                    rw [hke] at hH
                    have hY1 : Hid (q3.got = X.got) := hH.1
                    have hY2 : said = X.out := by have := hH.2; simpa [PeerS.hears] using this
                    have hN5 : N ≤ 5000 := by have := HSUM.out; have := sumLen_le Ls k; omega
                    subst hY2
                    clear hke hH HH hN
                    rcases hqq with q1 | ⟨q1, q2⟩
                    · go_wp2
                      all_goals
                        go_meet
                        exact ⟨rfl, q3, hY1, ⟨N, hN5, hsq3⟩, hT⟩
                    · go_wp2
                      all_goals
                        go_meet
                        exact ⟨rfl, q3, hY1, ⟨N, hN5, hsq3⟩, hT⟩
              case rest =>
                obtain ⟨rfl, q3, hg3, ⟨N3, hN3, hs3⟩, hT⟩ := hcut
                have hTX := hT.rot
                have kq : (X.out == X.out) = true := by rw [beq_iff_eq]
                have k3 : ((X.got.length : Int) % 3 == 0) = true := by rw [beq_iff_eq]; have := HG3.out; omega
                have HTX := Lib.hid hTX
                clear hT hTX
                go_wp2_with fail
                refine (HTX.out.got HSX.out (by omega)).mono ?_
                rintro e w6 ⟨v6, rfl, ho6, hB6⟩
                have hT6 := HTX.out.below hB6
                obtain ⟨a6, c6, rfl⟩ := row_form ho6
                have HT6 := Lib.hid hT6
                have HO6 := Lib.hid ho6
                clear hT6 ho6 hB6
                go_wp2_with fail
                refine (HT6.out.swap.got HSQ.out (by omega)).mono ?_
                rintro e w7 ⟨v7, rfl, ho7, hB7⟩
                have hT7 := HT6.out.below hB7
                rw [HY1.out] at ho7
                obtain ⟨a7, c7, rfl⟩ := row_form ho7
                have heq7 := eqStrings_c _ _ _ _ X.got X.got w7 (ownsBelow HO6.out hB7) ho7
                rw [decide_eq_true rfl] at heq7
                have HT7 := Lib.hid hT7
                have HE7 := Lib.hid heq7
                clear hT7 ho7 hB7 heq7 HO6
                go_wp2_with fail
                refine HE7.out.mono ?_
                rintro e w8 ⟨rfl, hB8⟩
                have HT8 := Lib.hid (HT7.out.below hB8)
                clear hB8 HE7
                go_wp2_with fail
                refine (HT8.out.got HSX.out (by omega)).mono ?_
                rintro e w9 ⟨v9, rfl, ho9, hB9⟩
                obtain ⟨a9, c9, rfl⟩ := row_form ho9
                have HT9 := Lib.hid (HT8.out.below hB9)
                have HO9 := Lib.hid ho9
                clear ho9 hB9
                go_wp2_with fail
                refine (HT9.out.rot.rot.got hs3 (by omega)).mono ?_
                rintro e w10 ⟨v10, rfl, ho10, hB10⟩
                rw [hg3.out] at ho10
                obtain ⟨a10, c10, rfl⟩ := row_form ho10
                have heq10 := eqStrings_c _ _ _ _ X.got X.got w10 (ownsBelow HO9.out hB10) ho10
                rw [decide_eq_true rfl] at heq10
                have HT10 := Lib.hid (HT9.out.below hB10)
                have HE10 := Lib.hid heq10
                clear ho10 hB10 heq10 HO9
                go_wp2_with fail
                refine HE10.out.mono ?_
                rintro e w11 ⟨rfl, hB11⟩
                have HT11 := Lib.hid (HT10.out.below hB11)
                clear hB11 HE10
                go_wp2_with fail
                refine (HT11.out.got HSX.out (by omega)).mono ?_
                rintro e w12 ⟨v12, rfl, ho12, hB12⟩
                obtain ⟨a12, c12, rfl⟩ := row_form ho12
                have HT12 := Lib.hid (HT11.out.below hB12)
                have hgl : X.got.length ≤ 15000 := by have := HSX.out.small.got; omega
                clear ho12 hB12
                generalize X.got.length = gl at *
                go_wp2_with fail
                have hwk := wakes_c w12 (hEc.below HT12.out.under)
                refine hwk.mono ?_
                rintro e w13 ⟨rfl, hB13⟩
                have HFIN := Lib.hid (HB1.out.trans ((HB.out.trans ((HT12.out.under.trans (hB13.mono (HT12.out.under.size))).mono HB.out.size)).mono HB1.out.size))
                clear hwk hB13
                go_wp2
                go_ret
                exact ⟨rfl, HFIN.out⟩
    · have g2 : decide ((5000 : Int) < (r : Int)) = true := decide_eq_true (by omega)
      clear hw hr
      go_wp2
      go_ret
      exact ⟨rfl, hB1⟩
  · have g1 : decide ((500 : Int) < (rs.length : Int)) = true := decide_eq_true (by omega)
    clear hR hL hl hw
    subst hrv hlv
    go_enter Tryz.func5, Tryz.ntmps5
    go_wp2
    go_ret
    exact ⟨rfl, hB1⟩

end Go.Proofs.YthbofddadgmghaaGreatDoor
