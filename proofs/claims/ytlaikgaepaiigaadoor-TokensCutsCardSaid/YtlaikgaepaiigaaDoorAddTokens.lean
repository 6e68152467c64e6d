/- A list is added to a bag; a bag whose lists are all of one kind: the contracts of AddTokens and of Apart there. Printed by gen_bag.py. -/
import Derived.Test.YtlaikgaepaiigaaDoorBag
import Derived.Test.YtlaikgaepaiigaaDoorApartNone
import Derived.Test.YtlaikgaepaiigaaDoorApartTokens
namespace Go.Proofs.YtlaikgaepaiigaaDoor.G
open Go Go.RowKit
set_option linter.unusedVariables false
set_option linter.unusedSimpArgs false
set_option maxRecDepth 100000 in
set_option maxHeartbeats 1000000 in
theorem addTokens_any (base gb k hc n cl : Nat) (HA al : Option Addr) (cs : Array Value) (hdrs : List Value) (w : World) (hB : Blk w gb 55 cs) (hcs : cs[9]? = some (.slice HA k hc)) (hk : k < 400)
    (hho : w.ownsRow base 25 1 (.slice HA k hc) k hdrs) (hgb : base ≤ gb) :
    Calls Tryd.prog 14 #[.pointer (some ⟨gb, 0, none⟩), .slice al n cl] w (AddPost 55 25 base gb 9 k cs hdrs (.slice al n cl) w) := by
  obtain ⟨i1, hi1, hz10, hz11, hz12⟩ := info_parts info25
  have hcell := (hB.cell 9).trans hcs
  have hzb := hB.lt
  have HB := Lib.hid hB
  have HHO := Lib.hid hho
  have hk1 : (k : Int) < 400 := by omega
  clear hB hho
  go_enter Tryd.func14, Tryd.ntmps14
  go_wp2_with (at_builtin; refine wpList_append_own _ rfl (.tmp 14) (.tmp 16) 42 rfl base 25 i1 (.slice none 0 0) 1 24 Tryd.underlying42 hi1 hz10 hz11 hz12 rfl (by decide) _ _ _ rfl (HHO.out.alloc _) ⟨w.heap.size, 0, none⟩ 1 1 [.slice al n cl] rfl rfl (cells_new _ _ _ _ rfl) (by simp [Value.oneCell']) (by unfold maxLen; omega) (by omega) (by simp; omega) ?_; intro v' w1 hown1 hg1 _q; obtain ⟨HA', hc', hv⟩ := own_shape hown1; subst hv; have hB1 := Lib.hid ((HB.out.alloc _).far_row (HHO.out.alloc _) hg1 (by decide)); have hT1 := Lib.hid (((Touch.refl [55, 25] base w).later (by omega) (bl_alloc (Below.refl _ _) _)).grown (HHO.out.alloc _) hg1 (by decide) (Nat.le_refl _) (by simp; omega)); have hc1 := (hB1.out.cell 9).trans hcs; have hf1 := hB1.out.frozen 9)
  go_returns
  refine ⟨rfl, HA', hc', hB1.out.put _ _, ?_, hT1.out.set hB1.out (by decide) hgb _ _⟩
  exact hown1.kept (row := some gb) ((Touch.refl [] 0 w1).below |> fun _ => ⟨rfl, rfl, rfl, by simp, fun j hj hne => Below.heap_setCell w1 ⟨gb, 9, none⟩ _ j (fun e => hne (by rw [e]))⟩) (row_ne hown1 hB1.out (by decide))
set_option maxRecDepth 100000 in
set_option maxHeartbeats 2000000 in
/-- A bag whose lists are all of this kind: they share no memory. -/
theorem apart_Tokens (base gb k hc : Nat) (HA : Option Addr) (cs : Array Value) (Ls : List Lst) (w : World) (hB : Blk w gb 55 cs) (hcs : cs[9]? = some (.slice HA k hc)) (hnil : ∀ i, i < 21 → i ≠ 9 → cs[i]? = some (.slice none 0 0)) (hk : Ls.length = k) (hk4 : k ≤ 400)
    (hho : w.ownsRow base 25 1 (.slice HA k hc) k (Ls.map Lst.v)) (hF : Fam w base 65 4 (Rows0 Ls)) (hlen : ∀ l ∈ Ls, l.n ≤ 1099511627776) (hbase : base ≤ w.heap.size) :
    Calls Tryd.prog 15 #[.pointer (some ⟨gb, 0, none⟩)] w (ApartPost base 65 w) := by
  have HC := Lib.hid (apartTokens_any base gb k hc HA cs Ls w hB hcs hk hk4 hho hF hlen hbase)
  have HN := Lib.hid (fun i h1 h2 => (hB.cell i).trans (hnil i h1 h2))
  have HN2 := Lib.hid (fun w' (hO : Only 65 base w w') i h1 h2 => ((hO.blk hB (by decide)).cell i).trans (hnil i h1 h2))
  clear hB hcs hnil hho hF hlen
  go_enter Tryd.func15, Tryd.ntmps15
  go_wp2_with (first
    | (go_at_call 29; refine (apartBytes_none gb _ (HN.out 0 (by decide) (by decide))).mono ?_; rintro e wq ⟨rfl, rfl⟩)
    | (go_at_call 30; refine (apartInts_none gb _ (HN.out 1 (by decide) (by decide))).mono ?_; rintro e wq ⟨rfl, rfl⟩)
    | (go_at_call 31; refine (apartLongs_none gb _ (HN.out 2 (by decide) (by decide))).mono ?_; rintro e wq ⟨rfl, rfl⟩)
    | (go_at_call 32; refine (apartWords_none gb _ (HN.out 3 (by decide) (by decide))).mono ?_; rintro e wq ⟨rfl, rfl⟩)
    | (go_at_call 33; refine (apartFloats_none gb _ (HN.out 4 (by decide) (by decide))).mono ?_; rintro e wq ⟨rfl, rfl⟩)
    | (go_at_call 34; refine (apartSmalls_none gb _ (HN.out 5 (by decide) (by decide))).mono ?_; rintro e wq ⟨rfl, rfl⟩)
    | (go_at_call 35; refine (apartTexts_none gb _ (HN.out 6 (by decide) (by decide))).mono ?_; rintro e wq ⟨rfl, rfl⟩)
    | (go_at_call 36; refine (apartPlayers_none gb _ (HN.out 7 (by decide) (by decide))).mono ?_; rintro e wq ⟨rfl, rfl⟩)
    | (go_at_call 37; refine (apartCards_none gb _ (HN.out 8 (by decide) (by decide))).mono ?_; rintro e wq ⟨rfl, rfl⟩)
    | (go_at_call 38; refine HC.out.mono ?_; rintro e wx ⟨rfl, hO⟩)
    | (go_at_call 39; refine (apartNodes_none gb _ (HN2.out _ hO 10 (by decide) (by decide))).mono ?_; rintro e wq ⟨rfl, rfl⟩)
    | (go_at_call 40; refine (apartInstrs_none gb _ (HN2.out _ hO 11 (by decide) (by decide))).mono ?_; rintro e wq ⟨rfl, rfl⟩)
    | (go_at_call 41; refine (apartRows_none gb _ (HN2.out _ hO 12 (by decide) (by decide))).mono ?_; rintro e wq ⟨rfl, rfl⟩)
    | (go_at_call 42; refine (apartShapes_none gb _ (HN2.out _ hO 13 (by decide) (by decide))).mono ?_; rintro e wq ⟨rfl, rfl⟩)
    | (go_at_call 43; refine (apartEvents_none gb _ (HN2.out _ hO 14 (by decide) (by decide))).mono ?_; rintro e wq ⟨rfl, rfl⟩)
    | (go_at_call 44; refine (apartValues_none gb _ (HN2.out _ hO 15 (by decide) (by decide))).mono ?_; rintro e wq ⟨rfl, rfl⟩)
    | (go_at_call 45; refine (apartAbilities_none gb _ (HN2.out _ hO 16 (by decide) (by decide))).mono ?_; rintro e wq ⟨rfl, rfl⟩)
    | (go_at_call 46; refine (apartDesigns_none gb _ (HN2.out _ hO 17 (by decide) (by decide))).mono ?_; rintro e wq ⟨rfl, rfl⟩)
    | (go_at_call 47; refine (apartEffects_none gb _ (HN2.out _ hO 18 (by decide) (by decide))).mono ?_; rintro e wq ⟨rfl, rfl⟩)
    | (go_at_call 48; refine (apartKinds_none gb _ (HN2.out _ hO 19 (by decide) (by decide))).mono ?_; rintro e wq ⟨rfl, rfl⟩)
    | (go_at_call 49; refine (apartStates_none gb _ (HN2.out _ hO 20 (by decide) (by decide))).mono ?_; rintro e wq ⟨rfl, rfl⟩))
  go_ret
  exact ⟨rfl, hO⟩
end Go.Proofs.YtlaikgaepaiigaaDoor.G
