/- Traces of events, in plain Lean: where the first one stands that does not fit. No program in sight. -/
import Derived.Test.YtofgmijmhpmabaaGreatDoorDDeeds
namespace Go.Proofs.YtofgmijmhpmabaaGreatDoor.D
open Go Go.RowKit
set_option linter.unusedVariables false
set_option linter.unusedSimpArgs false
/-- The place of the first event that does not fit. -/
def failAt (s : St) : List Ev → Nat
  | [] => 0
  | e :: l => match stepE s e false with
    | some t => failAt t l + 1
    | none => 0
theorem run_no : ∀ {l : List Ev} {s t : St} {i : Nat} {e : Ev}, i < l.length → l.getD i zeroEv = e → runE s (l.take i) = some t → stepE t e false = none → runE s l = none ∧ failAt s l = i
  | [], s, t, i, e, hi, _, _, _ => absurd hi (by simp)
  | a :: l, s, t, 0, e, _, he, h, hn => by
    obtain rfl : a = e := he
    obtain rfl := Option.some.inj (show some s = some t from h)
    unfold runE failAt
    rw [hn]
    exact ⟨rfl, rfl⟩
  | a :: l, s, t, i + 1, e, hi, he, h, hn => by
    rw [List.take_succ_cons] at h
    unfold runE at h
    unfold runE failAt
    cases hs : stepE s a false with
    | none => rw [hs] at h; cases h
    | some u =>
      rw [hs] at h
      obtain ⟨p, q⟩ := run_no (l := l) (by simpa using hi) (by simpa using he) h hn
      exact ⟨p, by simp only; rw [q]⟩
theorem run_yes {l : List Ev} {s t u : St} {i : Nat} {e : Ev} (hi : i < l.length) (he : l.getD i zeroEv = e) (h : runE s (l.take i) = some t) (hy : stepE t e false = some u) : runE s (l.take (i + 1)) = some u := by
  rw [List.take_succ_eq_append_getElem hi, run_app h]
  rw [getD_lt hi] at he
  unfold runE
  rw [he, hy]
  rfl
theorem run_may {l : List Ev} {s t : St} (hm : May s) (h : runE s l = some t) : May t := (run_back hm h).2.1
/-- The place of the last event that does not lead back. -/
noncomputable def backAt (s : St) : List Ev → Nat
  | [] => 0
  | e :: l => match backL s l with
    | some _ => 0
    | none => backAt s l + 1
theorem backL_cons (s : St) (e : Ev) (l : List Ev) : backL s (e :: l) = match backL s l with
    | some t => undoE t e
    | none => none := rfl
theorem back_no : ∀ {l : List Ev} {s t : St} {i : Nat} {e : Ev}, i < l.length → l.getD i zeroEv = e → backL s (l.drop (i + 1)) = some t → undoE t e = none → backL s l = none ∧ backAt s l = i
  | [], s, t, i, e, hi, _, _, _ => absurd hi (by simp)
  | a :: l, s, t, 0, e, _, he, h, hn => by
    obtain rfl : a = e := he
    rw [List.drop_succ_cons, List.drop_zero] at h
    rw [backL_cons]
    unfold backAt
    rw [h]
    exact ⟨hn, rfl⟩
  | a :: l, s, t, i + 1, e, hi, he, h, hn => by
    rw [List.drop_succ_cons] at h
    obtain ⟨p, q⟩ := back_no (l := l) (by simpa using hi) (by simpa using he) h hn
    rw [backL_cons]
    unfold backAt
    rw [p]
    exact ⟨rfl, by simp only; rw [q]⟩
theorem back_yes {l : List Ev} {s t u : St} {i : Nat} {e : Ev} (hi : i < l.length) (he : l.getD i zeroEv = e) (h : backL s (l.drop (i + 1)) = some t) (hy : undoE t e = some u) : backL s (l.drop i) = some u := by
  rw [getD_lt hi] at he
  rw [List.drop_eq_getElem_cons hi, backL_cons, h, he]
  exact hy
theorem undo_may {s t : St} {e : Ev} (h : undoE s e = some t) (hm : May s) : May t := (undo_facts h hm).2.1
theorem backL_may : ∀ {l : List Ev} {s t : St}, May s → backL s l = some t → May t
  | [], s, t, hm, h => by obtain rfl := Option.some.inj h; exact hm
  | e :: l, s, t, hm, h => by
    rw [backL_cons] at h
    cases hb : backL s l with
    | none => rw [hb] at h; cases h
    | some u =>
      rw [hb] at h
      exact undo_may h (backL_may hm hb)
end Go.Proofs.YtofgmijmhpmabaaGreatDoor.D
