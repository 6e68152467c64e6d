/- The contracts of code.of, code.size, code.Size, code.Name. -/
import Derived.Test.YtfldicaaaadgaaaGreatDoorCForms
import Derived.Lib.Hide
import Derived.Laws.EntriesVeiled
namespace Go.Proofs.YtfldicaaaadgaaaGreatDoor.Code
open Go.RowKit
set_option linter.unusedVariables false
set_option linter.unusedSimpArgs false
theorem find_entries (op : Int) : ∀ (l : List (Int × List UInt8 × Int)) (n i : Nat),
    (∃ j, Instr.findNow (.int .u8) (.int .u8 op) (entriesFrom n l) i = some ((l.find? fun r => r.1 == op).map fun r => (j, .agg #[strOf r.2.1, .int .i64 r.2.2, .nilFunc])))
  | [], _, _ => ⟨0, rfl⟩
  | r :: l, n, i => by
    simp only [entriesFrom, entryOf]
    rw [findNow_cons]
    by_cases h : op = r.1
    · refine ⟨i, ?_⟩
      simp [h]
    · obtain ⟨j, hj⟩ := find_entries op l (n + 1) (i + 1)
      refine ⟨j, ?_⟩
      have h' : (r.1 == op) = false := by simpa using fun e => h e.symm
      rw [if_neg h, hj, List.find?_cons, h']
/-- A look-up in the map of forms(). -/
theorem run_lookup_forms (w : World) (op : Int) :
    (Instr.lookup 93 (.map (some w.heap.size)) (.int .u8 op) true).run Tryz.prog (w.alloc formsMap) =
      .ok (.tuple #[.agg #[strOf (nameOf op), .int .i64 (match rowOf op with | some r => r.2 | none => 0), .nilFunc], .bool (rowOf op).isSome]) (w.alloc formsMap) := by
  have hb : (w.alloc formsMap).heap[w.heap.size]? = some (.map (entriesFrom 0 table).toArray 34) := heap_alloc_new w _
  obtain ⟨j, hj⟩ := find_entries op table 0 0
  have hkey : MapKept.IsKey (.int .u8) (.int .u8 op) := rfl
  have hf : Instr.findNow (.int .u8) (.int .u8 op) ((entriesFrom 0 table).toArray).toList 0 = some ((table.find? fun r => r.1 == op).map fun r => (j, .agg #[strOf r.2.1, .int .i64 r.2.2, .nilFunc])) := hj
  unfold rowOf nameOf rowOf
  cases h : table.find? (fun r => r.1 == op) with
  | none =>
    rw [h] at hf
    simp [Instr.lookup, run_underlying Tryz.underlying93, MapKept.run_getObj_map hb, MapKept.run_checkKey Tryz.underlying5 hkey, MapKept.run_findKey Tryz.underlying5 hf, Result.andThen, strOf]
  | some r =>
    rw [h] at hf
    simp [Instr.lookup, run_underlying Tryz.underlying93, MapKept.run_getObj_map hb, MapKept.run_checkKey Tryz.underlying5 hkey, MapKept.run_findKey Tryz.underlying5 hf, Result.andThen]
/-- What reads the operands of a kind. -/
def fnOf (k : Int) : FuncId := if k = 1 then 63 else if k = 2 then 64 else if k = 3 then 66 else 62
theorem row_of_kind {op k : Int} (h : kindOf op = k) (hk : 0 ≤ k) : ∃ r, rowOf op = some r ∧ r.2 = k := by
  unfold kindOf at h
  cases hx : rowOf op with
  | none => rw [hx] at h; simp at h; omega
  | some r => rw [hx] at h; exact ⟨r, rfl, h⟩
theorem kinds_table : table.all (fun r => decide (0 ≤ r.2.2)) = true := by decide +kernel
theorem row_none {op : Int} (h : kindOf op < 0) : rowOf op = none := by
  cases hx : rowOf op with
  | none => rfl
  | some r =>
    exfalso
    unfold kindOf at h
    rw [hx] at h
    unfold rowOf at hx
    obtain ⟨x, hx1, hx2⟩ := Option.map_eq_some_iff.1 hx
    have h1 := List.all_eq_true.1 kinds_table x (List.mem_of_find?_eq_some hx1)
    subst hx2
    simp at h1 h
    omega
set_option maxRecDepth 100000 in
set_option maxHeartbeats 1000000 in
theorem of_yes (op : Int) (k : Int) (w : World) (h : kindOf op = k) (hk : k = 0 ∨ k = 1 ∨ k = 2 ∨ k = 3) :
    Calls Tryz.prog 40 #[.int .u8 op] w fun e w' => e = .returned (.tuple #[.agg #[.string ⟨(nameOf op).toArray⟩, .int .i64 k, .func (.func (fnOf k)) #[] #[]], .bool true]) ∧ Below w.heap.size w w' := by
  obtain ⟨r, hr, hrk⟩ := row_of_kind h (by omega)
  have hl := run_lookup_forms ((w.alloc (.cells #[.string ⟨#[]⟩, .int .i64 0, .nilFunc] 72)).alloc (.cells #[.func (.func 62) #[] #[], .func (.func 63) #[] #[], .func (.func 64) #[] #[], .func (.func 66) #[] #[]] 148)) op
  simp only [hr, hrk, Option.isSome_some, strOf, World.size_alloc] at hl
  clear h hr hrk
  rcases hk with rfl | rfl | rfl | rfl
  all_goals
    go_enter Tryz.func40, Tryz.ntmps40
    go_wp2_with (first | (go_at_call 50; refine (forms_any _).mono ?_; rintro e w' ⟨rfl, rfl⟩))
    exact bodyPost_ret (v := .tuple #[.agg #[.string ⟨(nameOf op).toArray⟩, .int .i64 _, .func (.func (fnOf _)) #[] #[]], .bool true]) (by simp [results, Tryz.results32, go_sem, fnOf]) rfl ⟨rfl, by repeat (first | exact Below.refl _ _ | apply Bl.al)⟩
set_option maxRecDepth 100000 in
set_option maxHeartbeats 1000000 in
theorem of_no (op : Int) (w : World) (h : kindOf op < 0) :
    Calls Tryz.prog 40 #[.int .u8 op] w fun e w' => e = .returned (.tuple #[.agg #[.string ⟨#[]⟩, .int .i64 0, .nilFunc], .bool false]) ∧ Below w.heap.size w w' := by
  have hr := row_none h
  have hl := run_lookup_forms ((w.alloc (.cells #[.string ⟨#[]⟩, .int .i64 0, .nilFunc] 72)).alloc (.cells #[.func (.func 62) #[] #[], .func (.func 63) #[] #[], .func (.func 64) #[] #[], .func (.func 66) #[] #[]] 148)) op
  simp only [hr, Option.isSome_none, strOf, World.size_alloc, nameOf] at hl
  clear h hr
  go_enter Tryz.func40, Tryz.ntmps40
  go_wp2_with (first | (go_at_call 50; refine (forms_any _).mono ?_; rintro e w' ⟨rfl, rfl⟩))
  exact bodyPost_ret (v := .tuple #[.agg #[.string ⟨#[]⟩, .int .i64 0, .nilFunc], .bool false]) (by simp [results, Tryz.results32, go_sem]) rfl ⟨rfl, by repeat (first | exact Below.refl _ _ | apply Bl.al)⟩
set_option maxHeartbeats 400000 in
theorem size_any (k : Int) (w : World) :
    Calls Tryz.prog 41 #[.int .i64 k] w fun e w' => e = .returned (.int .i64 (width k)) ∧ w = w' := by
  by_cases h1 : k = 1
  · subst h1; go_enter Tryz.func41, Tryz.ntmps41; go_wp2; go_ret; exact ⟨rfl, rfl⟩
  · by_cases h2 : k = 2
    · subst h2; go_enter Tryz.func41, Tryz.ntmps41; go_wp2; go_ret; exact ⟨rfl, rfl⟩
    · by_cases h3 : k = 3
      · subst h3; go_enter Tryz.func41, Tryz.ntmps41; go_wp2; go_ret; exact ⟨rfl, rfl⟩
      · go_enter Tryz.func41, Tryz.ntmps41; go_wp2; go_ret; exact ⟨by simp [width, h1, h2, h3], rfl⟩
theorem width_le (k : Int) : 0 ≤ width k ∧ width k ≤ 4 := by unfold width; repeat' split <;> omega
set_option maxHeartbeats 400000 in
theorem Size_any (op : Int) (w : World) (h0 : 0 ≤ op) (h1 : op < 256) :
    Calls Tryz.prog 42 #[.int .u8 op] w fun e w' => e = .returned (.int .i64 (sizeOf op)) ∧ Below w.heap.size w w' := by
  rcases kind_or op h0 h1 with h | h
  · go_enter Tryz.func42, Tryz.ntmps42
    go_wp2_with (go_at_call 40; refine (of_no _ _ (by omega)).mono ?_; rintro e w' ⟨rfl, hb⟩)
    go_ret
    refine ⟨by simp [sizeOf, h], by repeat (first | exact hb | exact Below.refl _ _ | apply Bl.al)⟩
  · have hw := width_le (kindOf op)
    obtain ⟨k, hk⟩ : ∃ k, k = kindOf op := ⟨_, rfl⟩
    rw [← hk] at h hw
    have hs : sizeOf op = 1 + width k := by unfold sizeOf; rw [← hk, if_neg (by omega)]
    rw [hs]
    have HK := Lib.hid hk
    clear hk hs
    go_enter Tryz.func42, Tryz.ntmps42
    go_wp2_with (first | (go_at_call 40; refine (of_yes _ k _ HK.out.symm h).mono ?_; rintro e w' ⟨rfl, hb⟩) | (go_at_call 41; refine (size_any _ _).mono ?_; rintro e w' ⟨rfl, rfl⟩))
    go_ret
    refine ⟨rfl, by repeat (first | assumption | exact Below.refl _ _ | apply Bl.al)⟩
end Go.Proofs.YtfldicaaaadgaaaGreatDoor.Code
