/- The contracts of the reference's texts, numbers, asks, want. -/
import Derived.Test.YtamienmbpdbnnaaTNames
import Derived.Test.YtamienmbpdbnnaaTRank
import Derived.Test.YtamienmbpdbnnaaTEnds
namespace Go.Proofs.Ytamienmbpdbnnaa.T
open Go Go.RowKit
set_option linter.unusedVariables false
set_option linter.unusedSimpArgs false
def tkOf (op : Int) : Int := if op = 2 ∨ op = 6 ∨ op = 52 then 1 else if op = 11 ∨ op = 14 ∨ op = 15 ∨ op = 16 ∨ op = 50 then 2 else if op = 12 ∨ op = 33 then 3 else if op = 19 then 4 else if op = 49 then 5 else 0
def BoolPost (b : Bool) (w : World) (e : Ending) (w' : World) : Prop := e = .returned (.bool b) ∧ Below w.heap.size w w'
theorem toL_ne {s : ByteArray} {l : List UInt8} (h : ¬ s.data.toList = l) : (s.toList == l) = false := by
  rw [ByteArray.toList_eq]
  simpa using h
theorem tk_cases (op : Int) : ((op = 2 ∨ op = 6 ∨ op = 52) ∧ tkOf op = 1) ∨ ((op = 11 ∨ op = 14 ∨ op = 15 ∨ op = 16 ∨ op = 50) ∧ tkOf op = 2) ∨ ((op = 12 ∨ op = 33) ∧ tkOf op = 3) ∨ (op = 19 ∧ tkOf op = 4) ∨ (op = 49 ∧ tkOf op = 5) ∨
    ((¬ op = 2 ∧ ¬ op = 6 ∧ ¬ op = 52 ∧ ¬ op = 11 ∧ ¬ op = 14 ∧ ¬ op = 15 ∧ ¬ op = 16 ∧ ¬ op = 50 ∧ ¬ op = 12 ∧ ¬ op = 33 ∧ ¬ op = 19 ∧ ¬ op = 49) ∧ tkOf op = 0) := by
  unfold tkOf
  repeat' split
  all_goals simp only [and_true]
  all_goals first | omega | skip
theorem box_at {w w1 : World} {cs : Array Value} {t : TypeId} (hb : Below (w.alloc (.cells cs t)).heap.size (w.alloc (.cells cs t)) w1) {i : Nat} {v : Value} (h : cs[i]? = some v) : w1.cell? ⟨w.heap.size, i, none⟩ = some v := by
  have hk : G.Blk w1 w.heap.size t cs := (G.Blk.new w t cs).below hb (by simp)
  rw [hk.cell, h]
set_option maxRecDepth 100000 in
set_option maxHeartbeats 8000000 in
theorem texts_any (x : Nd) (w : World) (hs : x.text.size ≤ maxLen) : Calls Try.prog 42 #[x.val] w (BoolPost (textOk (tkOf x.op) x.text.data.toList) w) := by
  have hc := tk_cases x.op
  obtain ⟨op, kind, n, m, s, at_, kids⟩ := x
  simp only at hs hc ⊢
  unfold Nd.val BoolPost
  simp only
  have HN := Lib.hid (fun W => refName_any s W hs)
  have HT := Lib.hid (fun W => refText_any s W hs)
  have HF := Lib.hid (fun W => refFree_any s W hs)
  generalize tkOf op = T at *
  obtain ⟨R, hR⟩ : ∃ R, R = textOk T s.data.toList := ⟨_, rfl⟩
  rw [← hR]
  have HR := Lib.hid hR
  clear hR hs
  rcases hc with ⟨hc, hT⟩ | ⟨hc, hT⟩ | ⟨hc, hT⟩ | ⟨hc, hT⟩ | ⟨hc, hT⟩ | ⟨hc, hT⟩
  · have HR2 := Lib.hid (show R = textL s.data.toList by rw [HR.out, hT]; rfl)
    clear hT HR
    rcases hc with rfl | rfl | rfl
    all_goals
      go_enter Try.func42, Try.ntmps42
      go_wp2_with fail
      refine (HT.out _).mono ?_
      rintro e w1 ⟨he, rfl⟩
      rw [← HR2.out] at he
      subst he
      go_wp2_with fail
      go_ret
      exact ⟨rfl, G.bl_alloc (Below.refl _ _) _⟩
  · have HR2 := Lib.hid (show R = freeL s.data.toList by rw [HR.out, hT]; rfl)
    clear hT HR
    rcases hc with rfl | rfl | rfl | rfl | rfl
    all_goals
      go_enter Try.func42, Try.ntmps42
      go_wp2_with fail
      refine (HF.out _).mono ?_
      rintro e w1 ⟨he, hb⟩
      rw [← HR2.out] at he
      subst he
      have HB := Lib.hid (G.bl_trans (G.bl_alloc (Below.refl _ _) _) hb)
      clear hb
      go_wp2_with fail
      go_ret
      exact ⟨rfl, HB.out⟩
  · have HR2 := Lib.hid (show R = (s.data.toList == selfL || s.data.toList == meL || freeL s.data.toList) by rw [HR.out, hT]; rfl)
    clear hT HR
    rcases hc with rfl | rfl
    all_goals
      go_enter Try.func42, Try.ntmps42
      go_wp2_with fail
      refine (HF.out _).mono ?_
      rintro e w1 ⟨rfl, hb⟩
      have HB := Lib.hid (G.bl_trans (G.bl_alloc (Below.refl _ _) _) hb)
      have hc4 := box_at hb (i := 4) (v := .string s) rfl
      clear hb
      generalize freeL s.data.toList = F at HR2
      cases F with
      | true =>
        have HR3 := Lib.hid (show R = true by rw [HR2.out, Bool.or_true])
        go_wp2_with fail
        go_ret
        exact ⟨ret_bool HR3.out.symm, HB.out⟩
      | false =>
        by_cases h1 : s.data.toList = selfL
        · have HR3 := Lib.hid (show R = true by rw [HR2.out, h1]; rfl)
          have hs1 : (s.toList == [115, 101, 108, 102]) = true := by rw [ByteArray.toList_eq, h1]; rfl
          clear h1
          go_wp2_with fail
          go_ret
          exact ⟨ret_bool HR3.out.symm, HB.out⟩
        · have hs1 : (s.toList == [115, 101, 108, 102]) = false := toL_ne h1
          by_cases h2 : s.data.toList = meL
          · have HR3 := Lib.hid (show R = true by rw [HR2.out, h2]; rfl)
            have hs2 : (s.toList == [109, 101]) = true := by rw [ByteArray.toList_eq, h2]; rfl
            clear h1 h2
            go_wp2_with fail
            go_ret
            exact ⟨ret_bool HR3.out.symm, HB.out⟩
          · have HR3 := Lib.hid (show R = false by rw [HR2.out, beq_eq_false_iff_ne.2 h1, beq_eq_false_iff_ne.2 h2]; rfl)
            have hs2 : (s.toList == [109, 101]) = false := toL_ne h2
            clear h1 h2
            go_wp2_with fail
            go_ret
            exact ⟨ret_bool HR3.out.symm, HB.out⟩
  · have HR2 := Lib.hid (show R = (s.data.toList == hitL || s.data.toList == drawL || freeL s.data.toList) by rw [HR.out, hT]; rfl)
    clear hT HR
    subst hc
    all_goals
      go_enter Try.func42, Try.ntmps42
      go_wp2_with fail
      refine (HF.out _).mono ?_
      rintro e w1 ⟨rfl, hb⟩
      have HB := Lib.hid (G.bl_trans (G.bl_alloc (Below.refl _ _) _) hb)
      have hc4 := box_at hb (i := 4) (v := .string s) rfl
      clear hb
      generalize freeL s.data.toList = F at HR2
      cases F with
      | true =>
        have HR3 := Lib.hid (show R = true by rw [HR2.out, Bool.or_true])
        go_wp2_with fail
        go_ret
        exact ⟨ret_bool HR3.out.symm, HB.out⟩
      | false =>
        by_cases h1 : s.data.toList = hitL
        · have HR3 := Lib.hid (show R = true by rw [HR2.out, h1]; rfl)
          have hs1 : (s.toList == [104, 105, 116]) = true := by rw [ByteArray.toList_eq, h1]; rfl
          clear h1
          go_wp2_with fail
          go_ret
          exact ⟨ret_bool HR3.out.symm, HB.out⟩
        · have hs1 : (s.toList == [104, 105, 116]) = false := toL_ne h1
          by_cases h2 : s.data.toList = drawL
          · have HR3 := Lib.hid (show R = true by rw [HR2.out, h2]; rfl)
            have hs2 : (s.toList == [100, 114, 97, 119]) = true := by rw [ByteArray.toList_eq, h2]; rfl
            clear h1 h2
            go_wp2_with fail
            go_ret
            exact ⟨ret_bool HR3.out.symm, HB.out⟩
          · have HR3 := Lib.hid (show R = false by rw [HR2.out, beq_eq_false_iff_ne.2 h1, beq_eq_false_iff_ne.2 h2]; rfl)
            have hs2 : (s.toList == [100, 114, 97, 119]) = false := toL_ne h2
            clear h1 h2
            go_wp2_with fail
            go_ret
            exact ⟨ret_bool HR3.out.symm, HB.out⟩
  · have HR2 := Lib.hid (show R = nameL s.data.toList by rw [HR.out, hT]; rfl)
    clear hT HR
    subst hc
    go_enter Try.func42, Try.ntmps42
    go_wp2_with fail
    refine (HN.out _).mono ?_
    rintro e w1 ⟨he, rfl⟩
    rw [← HR2.out] at he
    subst he
    go_wp2_with fail
    go_ret
    exact ⟨rfl, G.bl_alloc (Below.refl _ _) _⟩
  · have HR2 := Lib.hid (show R = s.data.toList.isEmpty by rw [HR.out, hT]; rfl)
    obtain ⟨n1, n2, n3, n4, n5, n6, n7, n8, n9, n10, n11, n12⟩ := hc
    have m1 := ne_b n1
    have m2 := ne_b n2
    have m3 := ne_b n3
    have m4 := ne_b n4
    have m5 := ne_b n5
    have m6 := ne_b n6
    have m7 := ne_b n7
    have m8 := ne_b n8
    have m9 := ne_b n9
    have m10 := ne_b n10
    have m11 := ne_b n11
    have m12 := ne_b n12
    clear n1 n2 n3 n4 n5 n6 n7 n8 n9 n10 n11 n12 hT HR
    by_cases h1 : s = ⟨#[]⟩
    · have HR3 := Lib.hid (show R = true by rw [HR2.out, h1]; rfl)
      subst h1
      go_enter Try.func42, Try.ntmps42
      go_wp2_with fail
      go_ret
      exact ⟨ret_bool HR3.out.symm, G.bl_alloc (Below.refl _ _) _⟩
    · have h3 : s.data.toList.isEmpty = false := by
        rw [Bool.eq_false_iff]
        intro e
        exact h1 (bytes_inj (by simpa using e))
      have HR3 := Lib.hid (show R = false by rw [HR2.out, h3])
      have h2 : s.toList.isEmpty = false := by rw [ByteArray.toList_eq]; exact h3
      have h4 : (s.toList == []) = false := by
        rw [ByteArray.toList_eq]
        cases hl : s.data.toList with
        | nil => rw [hl] at h3; cases h3
        | cons a l => rfl
      clear h1 h3
      go_enter Try.func42, Try.ntmps42
      go_wp2_with fail
      go_ret
      exact ⟨ret_bool HR3.out.symm, G.bl_alloc (Below.refl _ _) _⟩
def numOk (op n : Int) : Bool := if op = 3 ∨ op = 4 ∨ op = 5 ∨ op = 14 ∨ op = 30 then decide (0 ≤ n) else if op = 7 then decide (0 ≤ n) && decide (n ≤ 4) else if op = 51 then decide (0 ≤ n) && decide (n ≤ 3) else n == 0
set_option maxRecDepth 100000 in
set_option maxHeartbeats 8000000 in
theorem numbers_any (x : Nd) (w : World) : Calls Try.prog 43 #[x.val] w (BoolPost (numOk x.op x.n) w) := by
  obtain ⟨op, kind, n, m, s, at_, kids⟩ := x
  simp only
  unfold Nd.val BoolPost
  simp only
  obtain ⟨R, hR⟩ : ∃ R, R = numOk op n := ⟨_, rfl⟩
  rw [← hR]
  have hc : (op = 3 ∨ op = 4 ∨ op = 5 ∨ op = 14 ∨ op = 30) ∨ op = 7 ∨ op = 51 ∨ (¬ op = 3 ∧ ¬ op = 4 ∧ ¬ op = 5 ∧ ¬ op = 14 ∧ ¬ op = 30 ∧ ¬ op = 7 ∧ ¬ op = 51) := by omega
  rcases hc with hc | hc | hc | ⟨n1, n2, n3, n4, n5, n6, n7⟩
  · have HR2 := Lib.hid (show R = decide (0 ≤ n) by rw [hR]; unfold numOk; rw [if_pos hc])
    clear hR
    rcases hc with rfl | rfl | rfl | rfl | rfl
    all_goals
      go_enter Try.func43, Try.ntmps43
      go_wp2_with fail
      go_ret
      exact ⟨ret_bool HR2.out.symm, G.bl_alloc (Below.refl _ _) _⟩
  · have HR2 := Lib.hid (show R = (decide (0 ≤ n) && decide (n ≤ 4)) by rw [hR, hc]; rfl)
    clear hR
    subst hc
    by_cases h0 : 0 ≤ n
    · have HR3 := Lib.hid (show R = decide (n ≤ 4) by rw [HR2.out, decide_eq_true h0, Bool.true_and])
      go_enter Try.func43, Try.ntmps43
      go_wp2_with fail
      go_ret
      exact ⟨ret_bool HR3.out.symm, G.bl_alloc (Below.refl _ _) _⟩
    · have HR3 := Lib.hid (show R = false by rw [HR2.out, decide_eq_false h0, Bool.false_and])
      go_enter Try.func43, Try.ntmps43
      go_wp2_with fail
      go_ret
      exact ⟨ret_bool HR3.out.symm, G.bl_alloc (Below.refl _ _) _⟩
  · have HR2 := Lib.hid (show R = (decide (0 ≤ n) && decide (n ≤ 3)) by rw [hR, hc]; rfl)
    clear hR
    subst hc
    by_cases h0 : 0 ≤ n
    · have HR3 := Lib.hid (show R = decide (n ≤ 3) by rw [HR2.out, decide_eq_true h0, Bool.true_and])
      go_enter Try.func43, Try.ntmps43
      go_wp2_with fail
      go_ret
      exact ⟨ret_bool HR3.out.symm, G.bl_alloc (Below.refl _ _) _⟩
    · have HR3 := Lib.hid (show R = false by rw [HR2.out, decide_eq_false h0, Bool.false_and])
      go_enter Try.func43, Try.ntmps43
      go_wp2_with fail
      go_ret
      exact ⟨ret_bool HR3.out.symm, G.bl_alloc (Below.refl _ _) _⟩
  · have HR2 := Lib.hid (show R = (n == 0) by rw [hR]; unfold numOk; rw [if_neg (by omega), if_neg n6, if_neg n7])
    have m1 := ne_b n1
    have m2 := ne_b n2
    have m3 := ne_b n3
    have m4 := ne_b n4
    have m5 := ne_b n5
    have m6 := ne_b n6
    have m7 := ne_b n7
    clear n1 n2 n3 n4 n5 n6 n7 hR
    go_enter Try.func43, Try.ntmps43
    go_wp2_with fail
    go_ret
    exact ⟨ret_bool HR2.out.symm, G.bl_alloc (Below.refl _ _) _⟩
def askO (op k : Int) : List Int :=
  if op = 7 then (if k = 1 then [4] else [3, 4]) else if op = 11 ∨ op = 12 ∨ op = 34 ∨ op = 35 ∨ op = 49 then [3] else if op = 13 then [3, 4, 6] else if op = 14 then [4] else if op = 15 then [3, 4] else if op = 16 then [3, 4, 4] else if 36 ≤ op ∧ op ≤ 48 then [3, 3] else []
def askR (op : Int) : Int := if op = 1 then 1 else if op = 2 then 2 else if op = 10 then 5 else if op = 19 then 3 else if op = 50 then 7 else 0
def askM (op k : Int) : Bool :=
  if op = 1 ∨ op = 2 ∨ op = 10 ∨ op = 19 ∨ op = 50 then decide (0 ≤ k) else if op = 7 then (k == 1 || k == 2) else if op = 11 ∨ op = 12 ∨ op = 34 ∨ op = 35 ∨ op = 49 ∨ op = 14 then k == 1 else if op = 13 ∨ op = 16 then (k == 2 || k == 3) else if op = 15 ∨ (36 ≤ op ∧ op ≤ 48) then k == 2 else k == 0
/-- A row of numbers whose block is known. -/
def IntRow (w : World) (A : Option Addr) (O : List Int) : Prop := O = [] ∨ ∃ g cs, A = some ⟨g, 0, none⟩ ∧ G.Blk w g 3 cs ∧ cs.toList = ints O
theorem IntRow.rd {w : World} {A : Option Addr} {O : List Int} (h : IntRow w A O) : G.RdS w A 1 O.length (ints O) := by
  rcases h with rfl | ⟨g, cs, rfl, hb, hc⟩
  · exact G.RdS.nil _
  · exact G.RdS.of_rdV (hc ▸ hb.rdV) (by simp [ints])
theorem IntRow.below {w w' : World} {A : Option Addr} {O : List Int} (h : IntRow w A O) (hb : Below w.heap.size w w') : IntRow w' A O :=
  h.imp id fun ⟨g, cs, e, hk, hc⟩ => ⟨g, cs, e, hk.below hb hk.lt, hc⟩
theorem IntRow.only {w w' : World} {E : TypeId} {B : Nat} {A : Option Addr} {O : List Int} (h : IntRow w A O) (hb : G.Only E B w w') (hE : 3 ≠ E) : IntRow w' A O :=
  h.imp id fun ⟨g, cs, e, hk, hc⟩ => ⟨g, cs, e, hb.blk hk hE, hc⟩
def AskPost (op k : Int) (w : World) (e : Ending) (w' : World) : Prop :=
  ∃ A c, e = .returned (.tuple #[.slice A (askO op k).length c, .int .i64 (askR op), .bool (askM op k)]) ∧ IntRow w' A (askO op k) ∧ Below w.heap.size w w'
theorem row_new {w : World} {cs : Array Value} {n : Nat} {O : List Int} (h : n = w.heap.size) (hc : cs.toList = ints O) : IntRow (w.alloc (.cells cs 3)) (some ⟨n, 0, none⟩) O := by
  subst h
  exact .inr ⟨_, cs, rfl, G.Blk.new w 3 cs, hc⟩
theorem ask_mk {op k r : Int} {w w' : World} {A : Option Addr} {c : Nat} {O : List Int} {b : Bool} (h1 : askO op k = O) (h2 : askR op = r) (h3 : askM op k = b) (hr : IntRow w' A O) (hb : Below w.heap.size w w') :
    AskPost op k w (.returned (.tuple #[.slice A O.length c, .int .i64 r, .bool b])) w' := by
  subst h1 h2 h3
  exact ⟨A, c, rfl, hr, hb⟩
set_option maxRecDepth 100000 in
set_option maxHeartbeats 16000000 in
theorem asks_any (x : Nd) (w : World) : Calls Try.prog 39 #[x.val] w (AskPost x.op x.kids w) := by
  obtain ⟨op, kind, n, m, s, at_, k⟩ := x
  simp only
  unfold Nd.val
  simp only
  have hc : op = 1 ∨ op = 2 ∨ op = 10 ∨ op = 19 ∨ op = 50 ∨ op = 7 ∨ (op = 11 ∨ op = 12 ∨ op = 34 ∨ op = 35 ∨ op = 49) ∨ op = 13 ∨ op = 14 ∨ op = 15 ∨ op = 16 ∨ (36 ≤ op ∧ op ≤ 48) ∨ (¬ op = 1 ∧ ¬ op = 2 ∧ ¬ op = 10 ∧ ¬ op = 19 ∧ ¬ op = 50 ∧ ¬ op = 7 ∧ ¬ op = 11 ∧ ¬ op = 12 ∧ ¬ op = 34 ∧ ¬ op = 35 ∧ ¬ op = 49 ∧ ¬ op = 13 ∧ ¬ op = 14 ∧ ¬ op = 15 ∧ ¬ op = 16 ∧ ¬ (36 ≤ op ∧ op ≤ 48)) := by omega
  rcases hc with hc | hc | hc | hc | hc | hc | hc | hc | hc | hc | hc | hc | hc
  · subst hc
    have HO := Lib.hid (show askO 1 k = [] from rfl)
    have HR := Lib.hid (show askR 1 = 1 from rfl)
    have HM := Lib.hid (show askM 1 k = decide (0 ≤ k) from rfl)
    go_enter Try.func39, Try.ntmps39
    go_wp2_with fail
    go_ret3
    exact ask_mk (O := []) HO.out HR.out HM.out (.inl rfl) (G.bl_alloc (G.bl_alloc (Below.refl _ _) _) _)
  · subst hc
    have HO := Lib.hid (show askO 2 k = [] from rfl)
    have HR := Lib.hid (show askR 2 = 2 from rfl)
    have HM := Lib.hid (show askM 2 k = decide (0 ≤ k) from rfl)
    go_enter Try.func39, Try.ntmps39
    go_wp2_with fail
    go_ret3
    exact ask_mk (O := []) HO.out HR.out HM.out (.inl rfl) (G.bl_alloc (G.bl_alloc (Below.refl _ _) _) _)
  · subst hc
    have HO := Lib.hid (show askO 10 k = [] from rfl)
    have HR := Lib.hid (show askR 10 = 5 from rfl)
    have HM := Lib.hid (show askM 10 k = decide (0 ≤ k) from rfl)
    go_enter Try.func39, Try.ntmps39
    go_wp2_with fail
    go_ret3
    exact ask_mk (O := []) HO.out HR.out HM.out (.inl rfl) (G.bl_alloc (G.bl_alloc (Below.refl _ _) _) _)
  · subst hc
    have HO := Lib.hid (show askO 19 k = [] from rfl)
    have HR := Lib.hid (show askR 19 = 3 from rfl)
    have HM := Lib.hid (show askM 19 k = decide (0 ≤ k) from rfl)
    go_enter Try.func39, Try.ntmps39
    go_wp2_with fail
    go_ret3
    exact ask_mk (O := []) HO.out HR.out HM.out (.inl rfl) (G.bl_alloc (G.bl_alloc (Below.refl _ _) _) _)
  · subst hc
    have HO := Lib.hid (show askO 50 k = [] from rfl)
    have HR := Lib.hid (show askR 50 = 7 from rfl)
    have HM := Lib.hid (show askM 50 k = decide (0 ≤ k) from rfl)
    go_enter Try.func39, Try.ntmps39
    go_wp2_with fail
    go_ret3
    exact ask_mk (O := []) HO.out HR.out HM.out (.inl rfl) (G.bl_alloc (G.bl_alloc (Below.refl _ _) _) _)
  · subst hc
    by_cases h1 : k = 1
    · subst h1
      have HO := Lib.hid (show askO 7 1 = [4] from rfl)
      have HR := Lib.hid (show askR 7 = 0 from rfl)
      have HM := Lib.hid (show askM 7 1 = true from rfl)
      go_enter Try.func39, Try.ntmps39
      go_wp2_with fail
      go_ret3
      exact ask_mk (O := [4]) HO.out HR.out HM.out (row_new (by simp) rfl) (G.bl_alloc (G.bl_alloc (G.bl_alloc (Below.refl _ _) _) _) _)
    · have h2 := ne_b h1
      have HO := Lib.hid (show askO 7 k = [3, 4] from (by unfold askO; rw [if_pos rfl, if_neg h1]))
      have HR := Lib.hid (show askR 7 = 0 from rfl)
      have HM := Lib.hid (show askM 7 k = (k == 2) from (show (k == 1 || k == 2) = (k == 2) by rw [h2, Bool.false_or]))
      clear h1
      go_enter Try.func39, Try.ntmps39
      go_wp2_with fail
      go_ret3
      exact ask_mk (O := [3, 4]) HO.out HR.out HM.out (row_new (by simp) rfl) (G.bl_alloc (G.bl_alloc (G.bl_alloc (Below.refl _ _) _) _) _)
  · rcases hc with rfl | rfl | rfl | rfl | rfl
    · have HO := Lib.hid (show askO 11 k = [3] from rfl)
      have HR := Lib.hid (show askR 11 = 0 from rfl)
      have HM := Lib.hid (show askM 11 k = (k == 1) from rfl)
      go_enter Try.func39, Try.ntmps39
      go_wp2_with fail
      go_ret3
      exact ask_mk (O := [3]) HO.out HR.out HM.out (row_new (by simp) rfl) (G.bl_alloc (G.bl_alloc (G.bl_alloc (Below.refl _ _) _) _) _)
    · have HO := Lib.hid (show askO 12 k = [3] from rfl)
      have HR := Lib.hid (show askR 12 = 0 from rfl)
      have HM := Lib.hid (show askM 12 k = (k == 1) from rfl)
      go_enter Try.func39, Try.ntmps39
      go_wp2_with fail
      go_ret3
      exact ask_mk (O := [3]) HO.out HR.out HM.out (row_new (by simp) rfl) (G.bl_alloc (G.bl_alloc (G.bl_alloc (Below.refl _ _) _) _) _)
    · have HO := Lib.hid (show askO 34 k = [3] from rfl)
      have HR := Lib.hid (show askR 34 = 0 from rfl)
      have HM := Lib.hid (show askM 34 k = (k == 1) from rfl)
      go_enter Try.func39, Try.ntmps39
      go_wp2_with fail
      go_ret3
      exact ask_mk (O := [3]) HO.out HR.out HM.out (row_new (by simp) rfl) (G.bl_alloc (G.bl_alloc (G.bl_alloc (Below.refl _ _) _) _) _)
    · have HO := Lib.hid (show askO 35 k = [3] from rfl)
      have HR := Lib.hid (show askR 35 = 0 from rfl)
      have HM := Lib.hid (show askM 35 k = (k == 1) from rfl)
      go_enter Try.func39, Try.ntmps39
      go_wp2_with fail
      go_ret3
      exact ask_mk (O := [3]) HO.out HR.out HM.out (row_new (by simp) rfl) (G.bl_alloc (G.bl_alloc (G.bl_alloc (Below.refl _ _) _) _) _)
    · have HO := Lib.hid (show askO 49 k = [3] from rfl)
      have HR := Lib.hid (show askR 49 = 0 from rfl)
      have HM := Lib.hid (show askM 49 k = (k == 1) from rfl)
      go_enter Try.func39, Try.ntmps39
      go_wp2_with fail
      go_ret3
      exact ask_mk (O := [3]) HO.out HR.out HM.out (row_new (by simp) rfl) (G.bl_alloc (G.bl_alloc (G.bl_alloc (Below.refl _ _) _) _) _)
  · subst hc
    by_cases h1 : k = 2
    · subst h1
      have HO := Lib.hid (show askO 13 2 = [3, 4, 6] from rfl)
      have HR := Lib.hid (show askR 13 = 0 from rfl)
      have HM := Lib.hid (show askM 13 2 = true from rfl)
      go_enter Try.func39, Try.ntmps39
      go_wp2_with fail
      go_ret3
      exact ask_mk (O := [3, 4, 6]) HO.out HR.out HM.out (row_new (by simp) rfl) (G.bl_alloc (G.bl_alloc (G.bl_alloc (Below.refl _ _) _) _) _)
    · have h2 := ne_b h1
      have HO := Lib.hid (show askO 13 k = [3, 4, 6] from rfl)
      have HR := Lib.hid (show askR 13 = 0 from rfl)
      have HM := Lib.hid (show askM 13 k = (k == 3) from (show (k == 2 || k == 3) = (k == 3) by rw [h2, Bool.false_or]))
      clear h1
      go_enter Try.func39, Try.ntmps39
      go_wp2_with fail
      go_ret3
      exact ask_mk (O := [3, 4, 6]) HO.out HR.out HM.out (row_new (by simp) rfl) (G.bl_alloc (G.bl_alloc (G.bl_alloc (Below.refl _ _) _) _) _)
  · subst hc
    have HO := Lib.hid (show askO 14 k = [4] from rfl)
    have HR := Lib.hid (show askR 14 = 0 from rfl)
    have HM := Lib.hid (show askM 14 k = (k == 1) from rfl)
    go_enter Try.func39, Try.ntmps39
    go_wp2_with fail
    go_ret3
    exact ask_mk (O := [4]) HO.out HR.out HM.out (row_new (by simp) rfl) (G.bl_alloc (G.bl_alloc (G.bl_alloc (Below.refl _ _) _) _) _)
  · subst hc
    have HO := Lib.hid (show askO 15 k = [3, 4] from rfl)
    have HR := Lib.hid (show askR 15 = 0 from rfl)
    have HM := Lib.hid (show askM 15 k = (k == 2) from rfl)
    go_enter Try.func39, Try.ntmps39
    go_wp2_with fail
    go_ret3
    exact ask_mk (O := [3, 4]) HO.out HR.out HM.out (row_new (by simp) rfl) (G.bl_alloc (G.bl_alloc (G.bl_alloc (Below.refl _ _) _) _) _)
  · subst hc
    by_cases h1 : k = 2
    · subst h1
      have HO := Lib.hid (show askO 16 2 = [3, 4, 4] from rfl)
      have HR := Lib.hid (show askR 16 = 0 from rfl)
      have HM := Lib.hid (show askM 16 2 = true from rfl)
      go_enter Try.func39, Try.ntmps39
      go_wp2_with fail
      go_ret3
      exact ask_mk (O := [3, 4, 4]) HO.out HR.out HM.out (row_new (by simp) rfl) (G.bl_alloc (G.bl_alloc (G.bl_alloc (Below.refl _ _) _) _) _)
    · have h2 := ne_b h1
      have HO := Lib.hid (show askO 16 k = [3, 4, 4] from rfl)
      have HR := Lib.hid (show askR 16 = 0 from rfl)
      have HM := Lib.hid (show askM 16 k = (k == 3) from (show (k == 2 || k == 3) = (k == 3) by rw [h2, Bool.false_or]))
      clear h1
      go_enter Try.func39, Try.ntmps39
      go_wp2_with fail
      go_ret3
      exact ask_mk (O := [3, 4, 4]) HO.out HR.out HM.out (row_new (by simp) rfl) (G.bl_alloc (G.bl_alloc (G.bl_alloc (Below.refl _ _) _) _) _)
  · obtain ⟨r1, r2⟩ := hc
    have m0 : (op == 1) = false := ne_b (by omega)
    have m1 : (op == 2) = false := ne_b (by omega)
    have m2 : (op == 7) = false := ne_b (by omega)
    have m3 : (op == 10) = false := ne_b (by omega)
    have m4 : (op == 11) = false := ne_b (by omega)
    have m5 : (op == 12) = false := ne_b (by omega)
    have m6 : (op == 34) = false := ne_b (by omega)
    have m7 : (op == 35) = false := ne_b (by omega)
    have m8 : (op == 49) = false := ne_b (by omega)
    have m9 : (op == 13) = false := ne_b (by omega)
    have m10 : (op == 14) = false := ne_b (by omega)
    have m11 : (op == 15) = false := ne_b (by omega)
    have m12 : (op == 16) = false := ne_b (by omega)
    have m13 : (op == 19) = false := ne_b (by omega)
    have m14 : (op == 50) = false := ne_b (by omega)
    have HO := Lib.hid (show askO op k = [3, 3] from (by unfold askO; repeat (first | rw [if_neg (by omega)] | rw [if_pos (by omega)])))
    have HR := Lib.hid (show askR op = 0 from (by unfold askR; repeat (first | rw [if_neg (by omega)] | rw [if_pos (by omega)])))
    have HM := Lib.hid (show askM op k = (k == 2) from (by unfold askM; repeat (first | rw [if_neg (by omega)] | rw [if_pos (by omega)])))
    go_enter Try.func39, Try.ntmps39
    go_wp2_with fail
    go_ret3
    exact ask_mk (O := [3, 3]) HO.out HR.out HM.out (row_new (by simp) rfl) (G.bl_alloc (G.bl_alloc (G.bl_alloc (Below.refl _ _) _) _) _)
  · obtain ⟨n0, n1, n2, n3, n4, n5, n6, n7, n8, n9, n10, n11, n12, n13, n14, n15⟩ := hc
    have m0 : (op == 1) = false := ne_b (by omega)
    have m1 : (op == 2) = false := ne_b (by omega)
    have m2 : (op == 7) = false := ne_b (by omega)
    have m3 : (op == 10) = false := ne_b (by omega)
    have m4 : (op == 11) = false := ne_b (by omega)
    have m5 : (op == 12) = false := ne_b (by omega)
    have m6 : (op == 34) = false := ne_b (by omega)
    have m7 : (op == 35) = false := ne_b (by omega)
    have m8 : (op == 49) = false := ne_b (by omega)
    have m9 : (op == 13) = false := ne_b (by omega)
    have m10 : (op == 14) = false := ne_b (by omega)
    have m11 : (op == 15) = false := ne_b (by omega)
    have m12 : (op == 16) = false := ne_b (by omega)
    have m13 : (op == 19) = false := ne_b (by omega)
    have m14 : (op == 50) = false := ne_b (by omega)
    have HO := Lib.hid (show askO op k = [] from (by unfold askO; repeat (first | rw [if_neg (by omega)] | rw [if_pos (by omega)])))
    have HR := Lib.hid (show askR op = 0 from (by unfold askR; repeat (first | rw [if_neg (by omega)] | rw [if_pos (by omega)])))
    have HM := Lib.hid (show askM op k = (k == 0) from (by unfold askM; repeat (first | rw [if_neg (by omega)] | rw [if_pos (by omega)])))
    by_cases r1 : 36 ≤ op
    · have r2 : ¬ op ≤ 48 := by omega
      clear n0 n1 n2 n3 n4 n5 n6 n7 n8 n9 n10 n11 n12 n13 n14 n15
      go_enter Try.func39, Try.ntmps39
      go_wp2_with fail
      go_ret3
      exact ask_mk (O := []) HO.out HR.out HM.out (.inl rfl) (G.bl_alloc (G.bl_alloc (Below.refl _ _) _) _)
    · clear n0 n1 n2 n3 n4 n5 n6 n7 n8 n9 n10 n11 n12 n13 n14 n15
      go_enter Try.func39, Try.ntmps39
      go_wp2_with fail
      go_ret3
      exact ask_mk (O := []) HO.out HR.out HM.out (.inl rfl) (G.bl_alloc (G.bl_alloc (Below.refl _ _) _) _)
def refWant (O : List Int) (oth : Int) (i : Nat) : Int := if i < O.length then O.getD i 0 else oth
set_option maxRecDepth 100000 in
set_option maxHeartbeats 4000000 in
theorem want_any (A : Option Addr) (C : Nat) (O : List Int) (oth left : Int) (nx : Nat) (w : World) (hr : IntRow w A O) (hn : nx ≤ 1099511627776) (hO : O.length ≤ 3) :
    Calls Try.prog 41 #[.agg #[.slice A O.length C, .int .i64 oth, .int .i64 left, .int .i64 nx]] w fun e w' => e = .returned (.int .i64 (refWant O oth nx)) ∧ Below w.heap.size w w' := by
  have h0 : (0 : Int) ≤ nx := by omega
  obtain ⟨R, hR⟩ : ∃ R, R = refWant O oth nx := ⟨_, rfl⟩
  rw [← hR]
  by_cases h : nx < O.length
  · have h1 : (nx : Int) < O.length := by omega
    have HRR := Lib.hid (show R = O.getD nx 0 by rw [hR]; exact if_pos h)
    obtain ⟨b, o, rfl, hrv⟩ := (hr.rd.below (G.bl_alloc (Below.refl _ _) (.cells #[.slice A O.length C, .int .i64 oth, .int .i64 left, .int .i64 nx] 67))).2 (by omega)
    have hc := hrv.2 nx (by simp [ints]; exact h)
    have e : (ints O).getD nx undef = .int .i64 (O.getD nx 0) := by
      simp [ints, List.getD_eq_getElem?_getD, h]
    rw [e] at hc
    generalize O.getD nx 0 = V at hc HRR
    have HC := Lib.hid hc
    clear hR hr hrv e hc
    go_enter Try.func41, Try.ntmps41
    have hc := HC.out
    go_wp2
    go_ret
    exact ⟨ret_int HRR.out.symm, G.bl_alloc (Below.refl _ _) _⟩
  · have h1 : ¬ (nx : Int) < O.length := by omega
    have HRR := Lib.hid (show R = oth by rw [hR]; exact if_neg h)
    clear hR hr
    go_enter Try.func41, Try.ntmps41
    go_wp2
    go_ret
    exact ⟨ret_int HRR.out.symm, G.bl_alloc (Below.refl _ _) _⟩
end Go.Proofs.Ytamienmbpdbnnaa.T
