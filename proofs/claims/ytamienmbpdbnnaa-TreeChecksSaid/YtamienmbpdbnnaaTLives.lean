/- The contract of tableaulaw09.lives: the known trees are answered as the document says. -/
import Derived.Test.YtamienmbpdbnnaaTOne
namespace Go.Proofs.Ytamienmbpdbnnaa.T
open Go Go.RowKit
set_option linter.unusedVariables false
set_option linter.unusedSimpArgs false
def blkNd (k : Int) : Nd := ⟨10, 0, 0, 0, ⟨#[]⟩, 0, k⟩
def doNd : Nd := ⟨19, 0, 0, 0, ⟨#[100, 114, 97, 119]⟩, 0, 1⟩
def meNd : Nd := ⟨33, 0, 0, 0, ⟨#[109, 101]⟩, 0, 0⟩
def lifeL : List Nd := [packNd, cardNd, onNd 1, blkNd 1, doNd, meNd]
theorem life_one : oneL [] [blkNd 1, doNd, meNd] = lifeL := rfl
def lifeF : Fo := .cons packNd (.cons cardNd (.cons (onNd 1) (.cons (blkNd 1) (.cons doNd (.cons meNd .nil .nil) .nil) .nil) .nil) .nil) .nil
theorem life_shape : shapeOf lifeL = -1 := by decide +kernel
theorem life_cut : shapeOf (lifeL.take 5) = 5 := by decide +kernel
theorem life_weight : weightOf lifeL = 3 := by decide +kernel
theorem life_behind : behindOf lifeL 3 = 6 := by decide +kernel
theorem life_kids : kidsL lifeL 4 = [5] := by decide +kernel
theorem life_open : openT packNd (.cons cardNd (.cons (onNd 1) (.cons (blkNd 1) (.cons doNd (.cons meNd .nil .nil) .nil) .nil) .nil) .nil) 0 = 2 := by
  have a0 : openT meNd .nil 2 = 2 := by rw [openT_kids (by decide) (by decide), kidsMax_nil]; decide
  have a1 : openT doNd (.cons meNd .nil .nil) 1 = 2 := by
    rw [openT_kids (by decide) (by decide), kidsMax_cons, kidsMax_nil, if_neg (by decide), show (1 : Int) + incI doNd.op + lowI meNd.op (wantsOf doNd.op ((0 : Nat) : Int)) = 2 by decide, a0]
    decide
  have a2 : openT (blkNd 1) (.cons doNd (.cons meNd .nil .nil) .nil) 0 = 2 := by
    rw [openT_kids (by decide) (by decide), kidsMax_cons, kidsMax_nil, if_neg (by decide), show (0 : Int) + incI (blkNd 1).op + lowI doNd.op (wantsOf (blkNd 1).op ((0 : Nat) : Int)) = 1 by decide, a1]
    decide
  have a3 : openT (onNd 1) (.cons (blkNd 1) (.cons doNd (.cons meNd .nil .nil) .nil) .nil) 0 = 2 := by
    rw [openT_kids (by decide) (by decide), kidsMax_cons, kidsMax_nil, if_neg (by decide), show (0 : Int) + incI (onNd 1).op + lowI (blkNd 1).op (wantsOf (onNd 1).op ((0 : Nat) : Int)) = 0 by decide, a2]
    decide
  have a4 : openT cardNd (.cons (onNd 1) (.cons (blkNd 1) (.cons doNd (.cons meNd .nil .nil) .nil) .nil) .nil) 0 = 2 := by
    rw [openT_kids (by decide) (by decide), kidsMax_cons, kidsMax_nil, if_neg (by decide), show (0 : Int) + incI cardNd.op + lowI (onNd 1).op (wantsOf cardNd.op ((0 : Nat) : Int)) = 0 by decide, a3]
    decide
  rw [openT_kids (by decide) (by decide), kidsMax_cons, kidsMax_nil, if_neg (by decide), show (0 : Int) + incI packNd.op + lowI cardNd.op (wantsOf packNd.op ((0 : Nat) : Int)) = 0 by decide, a4]
  decide
theorem life_depth : depthOf lifeL = 2 := by
  obtain ⟨x, k, he, hok⟩ := shape_tree.1 life_shape
  have h2 := flat_inj lifeF (.cons x k .nil) (by simp [lifeF, Fo.wf, Fo.len, packNd, cardNd, onNd, blkNd, doNd, meNd]) hok.good.wf rfl [] [] (by rw [← he]; rfl)
  simp only [lifeF, Fo.cons.injEq, and_true] at h2
  rw [depthOf_yes he hok, ← h2.1, ← h2.2]
  exact life_open
theorem life_flat : ∀ x ∈ lifeL, x.text.size ≤ 16777216 ∧ x.kids ≤ 9223372036854775807 := by
  intro x hx
  simp only [lifeL, List.mem_cons, List.mem_nil_iff, or_false] at hx
  rcases hx with rfl | rfl | rfl | rfl | rfl | rfl <;> exact ⟨by decide, by decide⟩
theorem rdS_take7 {w : World} {A : Option Addr} {n m : Nat} {t : List Nd} (h : G.RdS w A 7 n (flat t)) (hl : t.length = n) (hm : m ≤ n) : G.RdS w A 7 m (flat (t.take m)) := by
  refine ⟨by rw [flat_length, List.length_take, hl, Nat.min_eq_left hm], fun h0 => ?_⟩
  obtain ⟨b, off, rfl, hb, hr⟩ := h.2 (by omega)
  refine ⟨b, off, rfl, hb, fun j hj => ?_⟩
  have e : flat t = flat (t.take m) ++ flat (t.drop m) := by rw [flat, flat, flat, ← List.flatMap_append, List.take_append_drop]
  have h1 := hr j (by rw [e, List.length_append]; omega)
  rw [h1, e, List.getD_eq_getElem?_getD, List.getElem?_append_left hj, ← List.getD_eq_getElem?_getD]
def LivesPost (w : World) (e : Ending) (w' : World) : Prop := e = .returned (.bool true) ∧ Below w.heap.size w w'
set_option maxRecDepth 100000 in
set_option maxHeartbeats 4000000 in
theorem lives_any (w : World) (hci : ContIn w) : Calls Try.prog 18 #[] w (LivesPost w) := by
  have HCI := Lib.hid hci
  unfold LivesPost
  clear hci
  go_enter Try.func18, Try.ntmps18
  go_wp2_with fail
  have HSRC := Lib.hid (show Src (w.alloc (.cells #[.int .i8 10, .int .i8 0, .int .i64 0, .int .i64 0, .string ⟨#[]⟩, .int .i64 0, .int .i64 1, .int .i8 19, .int .i8 0, .int .i64 0, .int .i64 0, .string ⟨#[100, 114, 97, 119]⟩, .int .i64 0, .int .i64 1, .int .i8 33, .int .i8 0, .int .i64 0, .int .i64 0, .string ⟨#[109, 101]⟩, .int .i64 0, .int .i64 0] 33)) (some ⟨w.heap.size, 0, none⟩) 3 3 [blkNd 1, doNd, meNd] from
    .inr ⟨⟨_, rfl⟩, rfl, G.RdS.of_rdV (G.Blk.new w 33 _).rdV rfl⟩)
  refine (one_any none _ 0 0 3 3 [] [blkNd 1, doNd, meNd] _ (.inl ⟨rfl, rfl, rfl, rfl⟩) HSRC.out (by omega) (by omega)).mono ?_
  rintro e w1 he
  unfold OnePost at he
  obtain ⟨A, c, he, hown, hb⟩ := he
  have he' : e = .returned (.slice A 6 c) := he
  subst he'
  have hown' : w1.ownsRow _ 33 7 (.slice A 6 c) 6 (flat lifeL) := hown
  have HB1 := Lib.hid (show Below w.heap.size w w1 from G.bl_trans (G.bl_alloc (Below.refl _ _) _) hb)
  have HR1 := Lib.hid (G.RdS.of_own hown')
  have hc6 := (own_caps hown').1
  have hc7 := (own_caps hown').2
  obtain ⟨ga, oa, hA, _⟩ := HR1.out.2 (by omega)
  subst hA
  have HCI1 := Lib.hid (HCI.out.below HB1.out)
  have HCK := Lib.hid (fun W (h : Below w1.heap.size w1 W) => check_any (some ⟨ga, oa, none⟩) 6 c lifeL W rfl (by omega) (HR1.out.below h) (HCI1.out.below h) life_flat)
  have HCC := Lib.hid (fun W (h : Below w1.heap.size w1 W) => check_any (some ⟨ga, oa, none⟩) 5 c (lifeL.take 5) W rfl (by omega) ((rdS_take7 HR1.out rfl (by omega)).below h) (HCI1.out.below h) (fun x hx => life_flat x (List.mem_of_mem_take hx)))
  have HKD := Lib.hid (fun W (h : Below w1.heap.size w1 W) => kids_any (some ⟨ga, oa, none⟩) 6 c lifeL 4 W rfl (by omega) (HR1.out.below h))
  have HDP := Lib.hid (fun W (h : Below w1.heap.size w1 W) => depth_any (some ⟨ga, oa, none⟩) 6 c lifeL W rfl (by omega) (HR1.out.below h) (HCI1.out.below h) life_flat)
  have HWT := Lib.hid (fun W (h : Below w1.heap.size w1 W) => weight_any (some ⟨ga, oa, none⟩) 6 c lifeL W rfl (by omega) (HR1.out.below h) (HCI1.out.below h) life_flat)
  have HBH := Lib.hid (fun W (h : Below w1.heap.size w1 W) => behind_any (some ⟨ga, oa, none⟩) 6 c lifeL 3 W rfl (by omega) (HR1.out.below h))
  have HE1 : checkE lifeL = 0 := by unfold checkE; rw [life_shape, life_depth]; rfl
  have HP1 : checkP lifeL = 0 := by unfold checkP; rw [life_shape]; rfl
  have HE2 : checkE (lifeL.take 5) = 24 := by unfold checkE; rw [life_cut]; rfl
  have HP2 : checkP (lifeL.take 5) = 5 := by unfold checkP; rw [life_cut]; rfl
  unfold ChkPost at HCK HCC
  unfold DepPost at HDP HWT
  unfold KidsPost at HKD
  rw [HE1, HP1] at HCK
  rw [HE2, HP2] at HCC
  rw [life_depth] at HDP
  rw [life_weight] at HWT
  rw [life_behind] at HBH
  rw [life_kids] at HKD
  clear he hown hb hown' HE1 HP1 HE2 HP2 HSRC HCI
  go_wp2_with fail
  refine (HCK.out w1 (Below.refl _ _)).mono ?_
  rintro e w2 ⟨rfl, hb2⟩
  have HB2 := Lib.hid hb2
  clear hb2
  go_wp2_with fail
  refine (HCC.out w2 HB2.out).mono ?_
  rintro e w3 ⟨rfl, hb3⟩
  have HB3 := Lib.hid (G.bl_trans HB2.out hb3)
  clear hb3
  go_wp2_with fail
  refine (HKD.out w3 HB3.out).mono ?_
  rintro e w4 ⟨v, rfl, ho4, hb4⟩
  have HB4 := Lib.hid (G.bl_trans HB3.out hb4)
  obtain ⟨g4, c4, rfl, _⟩ := G.own_addr ho4 (by simp)
  have hc4 : w4.cell? ⟨g4, 0, none⟩ = some (.int .i64 5) := ho4.cellAt 0 (by simp)
  have hg4 := World.block_lt_of_cell? _ _ hc4
  have HO4 := Lib.hid ho4
  clear hb4 ho4
  go_wp2_with fail
  refine (HDP.out w4 HB4.out).mono ?_
  rintro e w5 ⟨rfl, hb5⟩
  have HB5 := Lib.hid (G.bl_trans HB4.out hb5)
  have hc5 := (hb5.cell (p := ⟨g4, 0, none⟩) hg4).trans hc4
  have hg5 := World.block_lt_of_cell? _ _ hc5
  clear hb5 hc4 hg4
  go_wp2_with fail
  refine (HWT.out w5 HB5.out).mono ?_
  rintro e w6 ⟨rfl, hb6⟩
  have HB6 := Lib.hid (G.bl_trans HB5.out hb6)
  have hc6' := (hb6.cell (p := ⟨g4, 0, none⟩) hg5).trans hc5
  clear hb6 hc5 hg5
  go_wp2_with fail
  refine (HBH.out w6 HB6.out).mono ?_
  rintro e wq ⟨rfl, rfl⟩
  go_wp2_with fail
  have HSM := Lib.hid (same_any (some ⟨ga, oa, none⟩) (some ⟨ga, oa, none⟩) 6 6 c c lifeL lifeL w6 (HR1.out.below HB6.out) (HR1.out.below HB6.out) (by simp [maxLen]) (by simp [maxLen]))
  have hsm : decide (SameP lifeL lifeL) = true := by rw [decide_eq_true_eq]; exact ⟨rfl, fun k _ => ⟨rfl, rfl, rfl, rfl, rfl, rfl⟩⟩
  rw [hsm] at HSM
  clear hsm
  refine HSM.out.mono ?_
  rintro e w7 ⟨rfl, hb7⟩
  have HB7 := Lib.hid (G.bl_trans HB6.out hb7)
  clear hb7
  go_wp2_with fail
  go_ret
  exact ⟨rfl, G.bl_trans HB1.out HB7.out⟩
end Go.Proofs.Ytamienmbpdbnnaa.T
