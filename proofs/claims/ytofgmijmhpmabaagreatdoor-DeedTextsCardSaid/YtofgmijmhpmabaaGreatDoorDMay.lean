/- The contract of deed.may: a copy of a state that may be. -/
import Derived.Test.YtofgmijmhpmabaaGreatDoorDCopyS
import Derived.Test.YtofgmijmhpmabaaGreatDoorDStep
import Derived.Test.YtofgmijmhpmabaaGreatDoorDCheckW
namespace Go.Proofs.YtofgmijmhpmabaaGreatDoor.D
open Go Go.RowKit
set_option linter.unusedVariables false
set_option linter.unusedSimpArgs false
theorem undSt : ∃ fs, Tryz.prog.underlying 27 = some (.struct fs) := by
  have hu : (Tryz.prog.underlying 27).map (fun d => match d with | .struct _ => true | _ => false) = some true := by kernel_rfl
  cases hx : Tryz.prog.underlying 27 with
  | none => rw [hx] at hu; simp at hu
  | some d =>
    rw [hx] at hu
    cases d <;> simp at hu
    exact ⟨_, rfl⟩
theorem sizeSt : (Tryz.prog.info? 27).map (·.size) = some 7 := by kernel_rfl
def zeroA : Array Value := #[.slice none 0 0, .slice none 0 0, .slice none 0 0, .int .i32 0, .int .i64 0, .int .i8 0, .int .i64 0]
theorem zeroA_b : Tryz.prog.built 27 [] = some zeroA := by kernel_rfl
theorem zeroA_eq : zeroSV.arr zeroSt = zeroA := rfl
theorem arr_size (x : SV) (s : St) : (x.arr s).size = 7 := rfl
theorem arr_one (x : SV) (s : St) : (x.arr s).all (·.oneCell') = true := by simp [SV.arr, Value.oneCell']
theorem st_results2 {fn : Func} {p q : Tmp} (h : fn.results = #[.cell p 27, .tmp q]) (tmps : Array Value) (w : World) (g : Nat) (cs : Array Value) (v : Value) (hp : tmps.getD p undef = .pointer (some ⟨g, 0, none⟩)) (hq : tmps.getD q undef = v) (hg : w.heap[g]? = some (.cells cs 27 (0, 0))) (hs : cs.size = 7) :
    (results fn tmps).run Tryz.prog w = .ok (.tuple #[.agg cs, v]) w := by
  have hp' : tmps[p]?.getD undef = .pointer (some ⟨g, 0, none⟩) := by simpa using hp
  have hq' : tmps[q]?.getD undef = v := by simpa using hq
  simp [results, h, hp', hq', asAddr, run_st hg hs]
def MayPost (s : St) (w : World) (e : Ending) (w' : World) : Prop :=
  ∃ (x' : SV) (t : St) (b : Bool), e = .returned (.tuple #[x'.val t, .bool b]) ∧ OwnSt w' w.heap.size x' t ∧ Below w.heap.size w w' ∧ ((b = true ∧ May s ∧ t = s) ∨ (b = false ∧ ¬ May s ∧ t = zeroSt ∧ x' = zeroSV))
theorem mayP_no {s : St} {w w' : World} (h : ¬ May s) (hb : Below w.heap.size w w') : MayPost s w (.returned (.tuple #[.agg zeroA, .bool false])) w' := ⟨zeroSV, zeroSt, false, rfl, zero_own _ _, hb, .inr ⟨rfl, h, rfl, rfl⟩⟩
theorem mayP_yes {s : St} {w w' : World} {x' : SV} (h : May s) (ho : OwnSt w' w.heap.size x' s) (hb : Below w.heap.size w w') : MayPost s w (.returned (.tuple #[.agg (x'.arr s), .bool true])) w' := ⟨x', s, true, rfl, ho, hb, .inl ⟨rfl, h, rfl⟩⟩
set_option maxRecDepth 100000 in
set_option maxHeartbeats 4000000 in
theorem mayD_any (x : SV) (s : St) (w : World) (h : RdSt w x s) (hz : Sz s) : Calls Tryz.prog 99 #[x.val s] w (MayPost s w) := by
  obtain ⟨fsS, hfsS⟩ := undSt
  have HFS := Lib.hid hfsS
  have HCK := Lib.hid (fun W (hW : Below w.heap.size w W) => check_any x s W (h.below hW) hz)
  have HCP := Lib.hid (fun W (hW : Below w.heap.size w W) => copy_any x s W (h.below hW) hz)
  obtain ⟨c, hc⟩ : ∃ c, c = x.arr s := ⟨_, rfl⟩
  have HC := Lib.hid hc
  have HS := Lib.hid (show c.size = 7 by rw [hc]; rfl)
  have he : x.val s = .agg c := by rw [hc]; rfl
  rw [he] at HCK HCP ⊢
  clear h hz hc he hfsS
  have H0 := two_new w 27 c zeroA
  go_enter Tryz.func99, Tryz.ntmps99
  go_upto_region 1 with (fail)
  obtain ⟨w0, hw0⟩ : ∃ w0, w0 = (w.alloc (.cells c 27)).alloc (.cells zeroA 27) := ⟨_, rfl⟩
  rw [← hw0] at H0
  unfold zeroA at hw0
  rw [← hw0]
  clear hw0
  obtain ⟨hb0, hb0', hbl0⟩ := H0
  have HBL0 := Lib.hid hbl0
  obtain ⟨g, hg⟩ : ∃ g, g = w.heap.size := ⟨_, rfl⟩
  have HG := Lib.hid hg
  rw [← hg] at hb0 hb0' ⊢
  have HB0 := Lib.hid hb0
  have HB0' := Lib.hid hb0'
  clear hb0 hb0' hbl0 hg
  go_upto_region 2 with (first | (refine wpList_load_row rfl 27 _ rfl g rfl _ c (0, 0) _ HB0.out HFS.out rfl (by rw [HS.out]; exact sizeSt) ?_) | ((with_reducible refine (HCK.out _ HBL0.out).mono ?_); rintro e1 w1 hp1; obtain ⟨k1, at1, rfl, hk1, hb1⟩ := hp1; have HBW1 := Lib.hid hb1; clear hb1))
  rcases hk1 with ⟨rfl, hm⟩ | ⟨rfl, hm⟩
  · have HM := Lib.hid hm
    have HB1 := Lib.hid (HB0.out.below HBW1.out HB0.out.lt)
    have HB1' := Lib.hid (HB0'.out.below HBW1.out HB0'.out.lt)
    have HBL1 := Lib.hid (G.bl_trans HBL0.out HBW1.out)
    clear hm
    go_wp2_with (first | (refine wpList_load_row rfl 27 _ rfl g rfl _ c (0, 0) _ HB1.out HFS.out rfl (by rw [HS.out]; exact sizeSt) ?_) | ((with_reducible refine (HCP.out _ HBL1.out).mono ?_); rintro e1 w2 hp2; obtain ⟨x2, rfl, ho2, hb2⟩ := hp2; have HBW2 := Lib.hid hb2; have HO2 := Lib.hid ho2; have HB2' := Lib.hid (HB1'.out.below hb2 HB1'.out.lt); clear hb2 ho2) | (refine wpList_store_row rfl 27 _ _ rfl (g + 1) (x2.arr s) rfl rfl 27 _ HB2'.out (by kernel_rfl) rfl (arr_one _ _) ?_))
    have HBL2 := Lib.hid (G.bl_trans HBL1.out HBW2.out)
    refine bodyPost_ret (v := .tuple #[.agg (x2.arr s), .bool true]) (st_results2 rfl _ _ (g + 1) _ _ rfl rfl (setRow_heap _ _ _ _ _ _ HB2'.out) rfl) rfl (mayP_yes HM.out ?_ ?_)
    · exact (HO2.out.ge (by have := HBL1.out.size; exact this)).only (only_row HB2'.out) (by decide) (by decide) (by decide) (by decide)
    · exact below_setRow HBL2.out (by have := HG.out; omega) _
  · have HM := Lib.hid hm
    have HB1' := Lib.hid (HB0'.out.below HBW1.out HB0'.out.lt)
    have HBL1 := Lib.hid (G.bl_trans HBL0.out HBW1.out)
    clear hm
    go_wp2_with (first | (refine build_to zeroA rfl 27 _ rfl _ (by kernel_rfl) zeroA_b ?_) | (refine wpList_store_row rfl 27 _ _ rfl (g + 1) zeroA rfl rfl 27 _ HB1'.out (by kernel_rfl) (by kernel_rfl) (by kernel_rfl) ?_))
    refine bodyPost_ret (v := .tuple #[.agg zeroA, .bool false]) (st_results2 rfl _ _ (g + 1) _ _ rfl rfl (setRow_heap _ _ _ _ _ _ HB1'.out) rfl) rfl (mayP_no HM.out ?_)
    exact below_setRow HBL1.out (by have := HG.out; omega) _
end Go.Proofs.YtofgmijmhpmabaaGreatDoor.D
