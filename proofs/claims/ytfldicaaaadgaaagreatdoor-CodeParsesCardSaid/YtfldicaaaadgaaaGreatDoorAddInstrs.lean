/- A list is added to a bag; a bag whose lists are all of one kind: the contracts of AddInstrs and of Apart there. Printed by gen_bag.py. -/
import Derived.Test.YtfldicaaaadgaaaGreatDoorBag
import Derived.Test.YtfldicaaaadgaaaGreatDoorApartNone
import Derived.Test.YtfldicaaaadgaaaGreatDoorApartInstrs
namespace Go.Proofs.YtfldicaaaadgaaaGreatDoor.G
open Go Go.RowKit
set_option linter.unusedVariables false
set_option linter.unusedSimpArgs false
set_option maxRecDepth 100000 in
set_option maxHeartbeats 1000000 in
theorem addInstrs_any (base gb k hc n cl : Nat) (HA al : Option Addr) (cs : Array Value) (hdrs : List Value) (w : World) (hB : Blk w gb 50 cs) (hcs : cs[11]? = some (.slice HA k hc)) (hk : k < 400)
    (hho : w.ownsRow base 23 1 (.slice HA k hc) k hdrs) (hgb : base ≤ gb) :
    Calls Tryz.prog 8 #[.pointer (some ⟨gb, 0, none⟩), .slice al n cl] w (AddPost 50 23 base gb 11 k cs hdrs (.slice al n cl) w) := by
  obtain ⟨i1, hi1, hz10, hz11, hz12⟩ := info_parts info23
  have hcell := (hB.cell 11).trans hcs
  have hzb := hB.lt
  have HB := Lib.hid hB
  have HHO := Lib.hid hho
  have hk1 : (k : Int) < 400 := by omega
  clear hB hho
  go_enter Tryz.func8, Tryz.ntmps8
  go_wp2_with (at_builtin; refine wpList_append_own _ rfl (.tmp 14) (.tmp 16) 39 rfl base 23 i1 (.slice none 0 0) 1 24 Tryz.underlying39 hi1 hz10 hz11 hz12 rfl (by decide) _ _ _ rfl (HHO.out.alloc _) ⟨w.heap.size, 0, none⟩ 1 1 [.slice al n cl] rfl rfl (cells_new _ _ _ _ rfl) (by simp [Value.oneCell']) (by unfold maxLen; omega) (by omega) (by simp; omega) ?_; intro v' w1 hown1 hg1 _q; obtain ⟨HA', hc', hv⟩ := own_shape hown1; subst hv; have hB1 := Lib.hid ((HB.out.alloc _).far_row (HHO.out.alloc _) hg1 (by decide)); have hT1 := Lib.hid (((Touch.refl [50, 23] base w).later (by omega) (bl_alloc (Below.refl _ _) _)).grown (HHO.out.alloc _) hg1 (by decide) (Nat.le_refl _) (by simp; omega)); have hc1 := (hB1.out.cell 11).trans hcs; have hf1 := hB1.out.frozen 11)
  go_returns
  refine ⟨rfl, HA', hc', hB1.out.put _ _, ?_, hT1.out.set hB1.out (by decide) hgb _ _⟩
  exact hown1.kept (row := some gb) ((Touch.refl [] 0 w1).below |> fun _ => ⟨rfl, rfl, rfl, by simp, fun j hj hne => Below.heap_setCell w1 ⟨gb, 11, none⟩ _ j (fun e => hne (by rw [e]))⟩) (row_ne hown1 hB1.out (by decide))
set_option maxRecDepth 100000 in
set_option maxHeartbeats 2000000 in
/-- A bag whose lists are all of this kind: they share no memory. -/
theorem apart_Instrs (base gb k hc : Nat) (HA : Option Addr) (cs : Array Value) (Ls : List Lst) (w : World) (hB : Blk w gb 50 cs) (hcs : cs[11]? = some (.slice HA k hc)) (hnil : ∀ i, i < 21 → i ≠ 11 → cs[i]? = some (.slice none 0 0)) (hk : Ls.length = k) (hk4 : k ≤ 400)
    (hho : w.ownsRow base 23 1 (.slice HA k hc) k (Ls.map Lst.v)) (hF : Fam w base 55 5 (Rows0 Ls)) (hlen : ∀ l ∈ Ls, l.n ≤ 1099511627776) (hbase : base ≤ w.heap.size) :
    Calls Tryz.prog 9 #[.pointer (some ⟨gb, 0, none⟩)] w (ApartPost base 55 w) := by
  have HC := Lib.hid (apartInstrs_any base gb k hc HA cs Ls w hB hcs hk hk4 hho hF hlen hbase)
  have HN := Lib.hid (fun i h1 h2 => (hB.cell i).trans (hnil i h1 h2))
  have HN2 := Lib.hid (fun w' (hO : Only 55 base w w') i h1 h2 => ((hO.blk hB (by decide)).cell i).trans (hnil i h1 h2))
  clear hB hcs hnil hho hF hlen
  go_enter Tryz.func9, Tryz.ntmps9
  go_wp2_with (first
    | (go_at_call 19; refine (apartBytes_none gb _ (HN.out 0 (by decide) (by decide))).mono ?_; rintro e wq ⟨rfl, rfl⟩)
    | (go_at_call 20; refine (apartInts_none gb _ (HN.out 1 (by decide) (by decide))).mono ?_; rintro e wq ⟨rfl, rfl⟩)
    | (go_at_call 21; refine (apartLongs_none gb _ (HN.out 2 (by decide) (by decide))).mono ?_; rintro e wq ⟨rfl, rfl⟩)
    | (go_at_call 22; refine (apartWords_none gb _ (HN.out 3 (by decide) (by decide))).mono ?_; rintro e wq ⟨rfl, rfl⟩)
    | (go_at_call 23; refine (apartFloats_none gb _ (HN.out 4 (by decide) (by decide))).mono ?_; rintro e wq ⟨rfl, rfl⟩)
    | (go_at_call 24; refine (apartSmalls_none gb _ (HN.out 5 (by decide) (by decide))).mono ?_; rintro e wq ⟨rfl, rfl⟩)
    | (go_at_call 25; refine (apartTexts_none gb _ (HN.out 6 (by decide) (by decide))).mono ?_; rintro e wq ⟨rfl, rfl⟩)
    | (go_at_call 26; refine (apartPlayers_none gb _ (HN.out 7 (by decide) (by decide))).mono ?_; rintro e wq ⟨rfl, rfl⟩)
    | (go_at_call 27; refine (apartCards_none gb _ (HN.out 8 (by decide) (by decide))).mono ?_; rintro e wq ⟨rfl, rfl⟩)
    | (go_at_call 28; refine (apartTokens_none gb _ (HN.out 9 (by decide) (by decide))).mono ?_; rintro e wq ⟨rfl, rfl⟩)
    | (go_at_call 29; refine (apartNodes_none gb _ (HN.out 10 (by decide) (by decide))).mono ?_; rintro e wq ⟨rfl, rfl⟩)
    | (go_at_call 30; refine HC.out.mono ?_; rintro e wx ⟨rfl, hO⟩)
    | (go_at_call 31; refine (apartRows_none gb _ (HN2.out _ hO 12 (by decide) (by decide))).mono ?_; rintro e wq ⟨rfl, rfl⟩)
    | (go_at_call 32; refine (apartShapes_none gb _ (HN2.out _ hO 13 (by decide) (by decide))).mono ?_; rintro e wq ⟨rfl, rfl⟩)
    | (go_at_call 33; refine (apartEvents_none gb _ (HN2.out _ hO 14 (by decide) (by decide))).mono ?_; rintro e wq ⟨rfl, rfl⟩)
    | (go_at_call 34; refine (apartValues_none gb _ (HN2.out _ hO 15 (by decide) (by decide))).mono ?_; rintro e wq ⟨rfl, rfl⟩)
    | (go_at_call 35; refine (apartAbilities_none gb _ (HN2.out _ hO 16 (by decide) (by decide))).mono ?_; rintro e wq ⟨rfl, rfl⟩)
    | (go_at_call 36; refine (apartDesigns_none gb _ (HN2.out _ hO 17 (by decide) (by decide))).mono ?_; rintro e wq ⟨rfl, rfl⟩)
    | (go_at_call 37; refine (apartEffects_none gb _ (HN2.out _ hO 18 (by decide) (by decide))).mono ?_; rintro e wq ⟨rfl, rfl⟩)
    | (go_at_call 38; refine (apartKinds_none gb _ (HN2.out _ hO 19 (by decide) (by decide))).mono ?_; rintro e wq ⟨rfl, rfl⟩)
    | (go_at_call 39; refine (apartStates_none gb _ (HN2.out _ hO 20 (by decide) (by decide))).mono ?_; rintro e wq ⟨rfl, rfl⟩))
  go_ret
  exact ⟨rfl, hO⟩
end Go.Proofs.YtfldicaaaadgaaaGreatDoor.G
