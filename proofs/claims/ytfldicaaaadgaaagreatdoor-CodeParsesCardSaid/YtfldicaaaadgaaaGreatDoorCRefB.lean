/- The contracts of the reference's Size and Name. -/
import Derived.Test.YtfldicaaaadgaaaGreatDoorCRefA
namespace Go.Proofs.YtfldicaaaadgaaaGreatDoor.Code
open Go.RowKit
set_option linter.unusedVariables false
set_option linter.unusedSimpArgs false
theorem refNames_at (n : Nat) (h : n < 47) : (#[.string ⟨#[]⟩, .string ⟨#[112, 117, 115, 104]⟩, .string ⟨#[116, 114, 117, 101]⟩, .string ⟨#[102, 97, 108, 115, 101]⟩, .string ⟨#[108, 111, 97, 100]⟩, .string ⟨#[115, 116, 111, 114, 101]⟩, .string ⟨#[]⟩, .string ⟨#[]⟩, .string ⟨#[]⟩, .string ⟨#[]⟩, .string ⟨#[97, 100, 100]⟩, .string ⟨#[115, 117, 98]⟩, .string ⟨#[109, 117, 108]⟩, .string ⟨#[100, 105, 118]⟩, .string ⟨#[114, 101, 109]⟩, .string ⟨#[110, 101, 103]⟩, .string ⟨#[97, 98, 115]⟩, .string ⟨#[109, 105, 110]⟩, .string ⟨#[109, 97, 120]⟩, .string ⟨#[108, 116]⟩, .string ⟨#[108, 101]⟩, .string ⟨#[103, 116]⟩, .string ⟨#[103, 101]⟩, .string ⟨#[110, 111, 116]⟩, .string ⟨#[101, 113]⟩, .string ⟨#[]⟩, .string ⟨#[]⟩, .string ⟨#[]⟩, .string ⟨#[]⟩, .string ⟨#[]⟩, .string ⟨#[106, 117, 109, 112]⟩, .string ⟨#[117, 110, 108, 101, 115, 115]⟩, .string ⟨#[101, 97, 99, 104]⟩, .string ⟨#[99, 104, 111, 111, 115, 101]⟩, .string ⟨#[115, 116, 111, 112]⟩, .string ⟨#[97, 98, 111, 114, 116]⟩, .string ⟨#[]⟩, .string ⟨#[]⟩, .string ⟨#[]⟩, .string ⟨#[]⟩, .string ⟨#[110, 101, 120, 116]⟩, .string ⟨#[122, 111, 110, 101]⟩, .string ⟨#[114, 97, 110, 100, 111, 109]⟩, .string ⟨#[116, 111, 112]⟩, .string ⟨#[104, 97, 115]⟩, .string ⟨#[105, 115]⟩, .string ⟨#[102, 105, 101, 108, 100]⟩] : Array Value)[n]? = some (.string ⟨(nameOf n).toArray⟩) := by
  have h' : n = 0 ∨ n = 1 ∨ n = 2 ∨ n = 3 ∨ n = 4 ∨ n = 5 ∨ n = 6 ∨ n = 7 ∨ n = 8 ∨ n = 9 ∨ n = 10 ∨ n = 11 ∨ n = 12 ∨ n = 13 ∨ n = 14 ∨ n = 15 ∨ n = 16 ∨ n = 17 ∨ n = 18 ∨ n = 19 ∨ n = 20 ∨ n = 21 ∨ n = 22 ∨ n = 23 ∨ n = 24 ∨ n = 25 ∨ n = 26 ∨ n = 27 ∨ n = 28 ∨ n = 29 ∨ n = 30 ∨ n = 31 ∨ n = 32 ∨ n = 33 ∨ n = 34 ∨ n = 35 ∨ n = 36 ∨ n = 37 ∨ n = 38 ∨ n = 39 ∨ n = 40 ∨ n = 41 ∨ n = 42 ∨ n = 43 ∨ n = 44 ∨ n = 45 ∨ n = 46 := by omega
  clear h
  rcases h' with rfl | rfl | rfl | rfl | rfl | rfl | rfl | rfl | rfl | rfl | rfl | rfl | rfl | rfl | rfl | rfl | rfl | rfl | rfl | rfl | rfl | rfl | rfl | rfl | rfl | rfl | rfl | rfl | rfl | rfl | rfl | rfl | rfl | rfl | rfl | rfl | rfl | rfl | rfl | rfl | rfl | rfl | rfl | rfl | rfl | rfl | rfl <;> rfl
set_option maxRecDepth 100000 in
set_option maxHeartbeats 8000000 in
theorem refName_low (n : Nat) (w : World) (h : n < 47) : Calls Tryz.prog 54 #[.int .u8 n] w fun e w' => e = .returned (.string ⟨(nameOf n).toArray⟩) ∧ Below w.heap.size w w' := by
  have hn := (Array.getElem?_eq_some_iff.1 (refNames_at n h)).2
  have HN := Lib.hid hn
  clear hn
  have h1 : (n : Int) < 47 := by omega
  have h2 : (n : Int) ≤ 255 := by omega
  go_enter Tryz.func54, Tryz.ntmps54
  go_wp2
  go_ret
  exact ⟨congrArg Ending.returned HN.out, by repeat (first | (with_reducible apply Bl.al) | (with_reducible exact Below.refl _ _))⟩
set_option maxRecDepth 100000 in
set_option maxHeartbeats 8000000 in
theorem refName_60 (w : World) : Calls Tryz.prog 54 #[.int .u8 60] w fun e w' => e = .returned (.string ⟨(nameOf 60).toArray⟩) ∧ Below w.heap.size w w' := by
  go_enter Tryz.func54, Tryz.ntmps54
  go_wp2
  go_ret
  exact ⟨rfl, by repeat (first | (with_reducible apply Bl.al) | (with_reducible exact Below.refl _ _))⟩
theorem names_none : ∀ n : Fin 256, 47 ≤ n.val → n.val ≠ 60 → nameOf (n.val : Int) = [] := by decide +kernel
set_option maxRecDepth 100000 in
set_option maxHeartbeats 8000000 in
theorem refName_high (op : Int) (w : World) (h0 : 47 ≤ op) (h1 : op < 256) (h : op ≠ 60) : Calls Tryz.prog 54 #[.int .u8 op] w fun e w' => e = .returned (.string ⟨(nameOf op).toArray⟩) ∧ Below w.heap.size w w' := by
  have hn : nameOf op = [] := by
    have := names_none ⟨op.toNat, by omega⟩ (by simp; omega) (by simp; omega)
    simpa [Int.toNat_of_nonneg (show 0 ≤ op by omega)] using this
  rw [hn]
  clear hn
  go_enter Tryz.func54, Tryz.ntmps54
  go_wp2
  go_ret
  exact ⟨rfl, by repeat (first | (with_reducible apply Bl.al) | (with_reducible exact Below.refl _ _))⟩
theorem refName_any (op : Int) (w : World) (h0 : 0 ≤ op) (h1 : op < 256) : Calls Tryz.prog 54 #[.int .u8 op] w fun e w' => e = .returned (.string ⟨(nameOf op).toArray⟩) ∧ Below w.heap.size w w' := by
  by_cases h : op < 47
  · obtain ⟨n, rfl⟩ := Int.eq_ofNat_of_zero_le h0
    exact refName_low n w (by omega)
  · by_cases h2 : op = 60
    · subst h2; exact refName_60 w
    · exact refName_high op w (by omega) h1 h2
def sumOf (l : List Int) : Int := l.foldl (· + ·) 0
theorem sum_width (op : Int) (h0 : 0 ≤ op) (h1 : op < 256) (hk : 0 ≤ kindOf op) : 1 + (widthsOf (kindOf op)).sum = sizeOf op := by
  unfold sizeOf
  rw [if_neg (by omega)]
  rcases kind_or op h0 h1 with h | h | h | h | h <;> rw [h] <;> first | rfl | omega
theorem widths_bd (k : Int) : (widthsOf k).length ≤ 3 ∧ ∀ j, 0 ≤ (widthsOf k).getD j 0 ∧ (widthsOf k).getD j 0 ≤ 2 := by
  unfold widthsOf
  (repeat' split) <;> refine ⟨by simp, fun j => ?_⟩ <;> (try rcases j with _ | _ | _ | j) <;> simp
set_option maxHeartbeats 1000000 in
theorem refSize_any (op : Int) (w : World) (h0 : 0 ≤ op) (h1 : op < 256) : Calls Tryz.prog 58 #[.int .u8 op] w fun e w' => e = .returned (.int .i64 (sizeOf op)) ∧ Below w.heap.size w w' := by
  have hW := fun W => Widths_any op W h0 h1
  by_cases hk : 0 ≤ kindOf op
  · have hs := sum_width op h0 h1 hk
    have hbd := widths_bd (kindOf op)
    obtain ⟨ws, hws⟩ : ∃ ws, ws = widthsOf (kindOf op) := ⟨_, rfl⟩
    have hd : decide (0 ≤ kindOf op) = true := by simpa using hk
    unfold WdPost at hW
    simp only [hd] at hW
    rw [← hws] at hs hbd hW
    have HW := Lib.hid hW
    have HS := Lib.hid hs
    have HBD := Lib.hid hbd.2
    have hl3 := hbd.1
    clear hW hs hbd hd hws hk
    go_enter Tryz.func58, Tryz.ntmps58
    go_wp2_with (go_at_call 55; refine (HW.out _).mono ?_)
    rintro e w1 ⟨v, rfl, ho, hb⟩
    obtain ⟨ao, cp, rfl⟩ := own_shape ho
    have HO := Lib.hid ho
    clear ho
    go_wp2_with fail
    go_loop [5, 6] (fun t i => ∃ j : Nat, j ≤ ws.length ∧ i = .int .i64 j ∧ t = .int .i64 (1 + (ws.take j).sum) ∧ 0 ≤ (ws.take j).sum ∧ (ws.take j).sum ≤ 2 * j) (fun _ i => ws.length - (intOf i).toNat)
    case atStart => exact ⟨0, Nat.zero_le _, rfl, rfl, by simp, by simp⟩
    case round =>
      obtain ⟨j, hj, rfl, rfl, hs0, hs1⟩ := hrel
      by_cases hjl : j < ws.length
      · obtain ⟨g, cap', hv, hc⟩ := own_cell HO.out j hjl
        simp only [Value.slice.injEq] at hv
        obtain ⟨rfl, _, rfl⟩ := hv
        have hb2 := HBD.out j
        have htk : (ws.take (j + 1)).sum = (ws.take j).sum + ws.getD j 0 := by
          have e1 : ws.take (j + 1) = ws.take j ++ [ws.getD j 0] := by
            rw [List.take_succ_eq_append_getElem hjl, List.getD_eq_getElem?_getD, List.getElem?_eq_getElem hjl]; rfl
          rw [e1, List.sum_append, List.sum_cons, List.sum_nil, Int.add_zero]
        have HTK := Lib.hid htk
        clear htk
        generalize ws.getD j 0 = m at *
        go_wp2
        go_round
        case rel => exact ⟨j + 1, by omega, by go_num, by rw [HTK.out]; congr 1; omega, by rw [HTK.out]; omega, by rw [HTK.out]; omega⟩
        case measure => simp [intOf]; omega
      · have hjn : j = ws.length := by omega
        have hfin : 1 + (ws.take j).sum = sizeOf op := by rw [hjn, List.take_length]; exact HS.out
        have HF := Lib.hid hfin
        clear hfin hjn
        go_wp2
        go_ret
        exact ⟨by rw [HF.out]; rfl, hb⟩
  · have hs : sizeOf op = 0 := by unfold sizeOf; rw [if_pos (by omega)]
    have hd : decide (0 ≤ kindOf op) = false := by simpa using hk
    unfold WdPost at hW
    simp only [hd] at hW
    have HW := Lib.hid hW
    rw [hs]
    clear hW hs hd hk
    go_enter Tryz.func58, Tryz.ntmps58
    go_wp2_with (go_at_call 55; refine (HW.out _).mono ?_)
    rintro e w1 ⟨v, rfl, ho, hb⟩
    go_wp2_with fail
    go_ret
    exact ⟨rfl, hb⟩
end Go.Proofs.YtfldicaaaadgaaaGreatDoor.Code
