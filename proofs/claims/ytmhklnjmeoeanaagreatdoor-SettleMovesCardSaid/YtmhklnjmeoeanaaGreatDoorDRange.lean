/- The numbers of what a deed comes to fit an event's types. Plain Lean. -/
import Derived.Test.YtmhklnjmeoeanaaGreatDoorDShuf
import Derived.Test.YtmhklnjmeoeanaaGreatDoorDField
namespace Go.Proofs.YtmhklnjmeoeanaaGreatDoor.D
open Go Go.RowKit
set_option linter.unusedVariables false
set_option linter.unusedSimpArgs false
theorem may_small {s : St} (h : May s) : s.zones.length ≤ 16 ∧ s.cards.length ≤ 256 ∧ s.players.length ≤ 4 := by
  have := h.zn
  have := h.n4
  exact ⟨by omega, h.m256, h.n4⟩
theorem moveEv_range {s : St} {card zn : Int} {first : Bool} (h : May s) (hc : Within card s.cards.length) (hz : Within zn s.zones.length) : ∀ e ∈ moveEv s card zn first, e.Fits ∧ e.order = [] := by
  obtain ⟨p1, p2, p3⟩ := place_ok h hc
  obtain ⟨b1, b2, b3⟩ := may_small h
  have b4 := may_zone h (zoneOf s.zones card)
  have b5 : (zone s zn).length ≤ 256 := may_zone h zn.toNat
  obtain ⟨c1, c2⟩ := hc
  obtain ⟨z1, z2⟩ := hz
  intro e he
  unfold moveEv at he
  simp only at he
  obtain ⟨dst, hdst⟩ : ∃ dst : Int, dst = if first = true then 0 else if (zoneOf s.zones card : Int) = zn then ((zone s zn).length : Int) - 1 else (zone s zn).length := ⟨_, rfl⟩
  have hd : -1 ≤ dst ∧ dst ≤ 256 := by
    rw [hdst]
    split
    · omega
    · split <;> omega
  rw [← hdst] at he
  by_cases hne : (zoneOf s.zones card : Int) = zn ∧ (atOf s.zones card : Int) = dst
  · rw [if_pos hne] at he
    cases he
  · rw [if_neg hne] at he
    obtain rfl := List.mem_singleton.1 he
    exact ⟨by constructor <;> simp [zeroEv] <;> omega, rfl⟩
theorem getF_within {s : St} {f n x : Int} (h : getF s f n = some x) : Within n s.cards.length ∨ Within n s.players.length := by
  unfold getF at h
  split at h
  · split at h
    · rename_i h1
      exact .inl h1.2
    · cases h
  · split at h
    · rename_i h1
      exact .inr h1.2
    · cases h
theorem changeEv_range {s : St} {f num b : Int} (h : May s) (hf : -128 ≤ f ∧ f ≤ 127) : ∀ e ∈ changeEv s f num b, e.Fits ∧ e.order = [] := by
  obtain ⟨b1, b2, b3⟩ := may_small h
  intro e he
  unfold changeEv at he
  split at he
  · cases he
  · rename_i was hg
    split at he
    · cases he
    · obtain rfl := List.mem_singleton.1 he
      obtain ⟨s1, s2⟩ := getF_stat h hg
      obtain ⟨t1, t2⟩ := clamp_stat (was + b)
      have hn : -1 ≤ num ∧ num ≤ 256 := by
        rcases getF_within hg with ⟨a, c⟩ | ⟨a, c⟩ <;> omega
      unfold changeOne
      split
      · exact ⟨by constructor <;> simp [zeroEv] <;> omega, rfl⟩
      · exact ⟨by constructor <;> simp [zeroEv] <;> omega, rfl⟩
theorem shufEv_range {s : St} {z : Int} {order : List Int} (h : May s) (hz : Within z s.zones.length) : ∀ e ∈ shufEv z order, e.Fits ∧ e.order = order := by
  obtain ⟨b1, b2, b3⟩ := may_small h
  obtain ⟨z1, z2⟩ := hz
  intro e he
  unfold shufEv at he
  split at he
  · cases he
  · obtain rfl := List.mem_singleton.1 he
    exact ⟨by constructor <;> simp [zeroEv] <;> omega, rfl⟩
theorem outEv_range {s : St} {p : Int} (h : May s) (hp : Within p s.players.length) : ∀ e ∈ outEv s p, e.Fits ∧ e.order = [] := by
  obtain ⟨b1, b2, b3⟩ := may_small h
  obtain ⟨z1, z2⟩ := hp
  intro e he
  unfold outEv at he
  split at he
  · cases he
  · obtain rfl := List.mem_singleton.1 he
    exact ⟨by constructor <;> simp [zeroEv] <;> omega, rfl⟩
theorem drawEv_range {s : St} {p : Int} (h : May s) (hp : Within p s.players.length) : ∀ e ∈ drawEv s p, e.Fits ∧ e.order = [] := by
  intro e he
  unfold drawEv at he
  split at he
  · cases he
  · rename_i c l hz
    obtain ⟨h0, h1⟩ := hp
    have hzn := h.zn
    have hlt : (4 * p).toNat < s.zones.length := by omega
    unfold zone at hz
    refine moveEv_range h (place_in h (z := (4 * p).toNat) (a := 0) hlt (by rw [hz]; simp) (by rw [hz]; rfl)) ⟨by omega, by omega⟩ e he
theorem askEv_range {s : St} {d : Dq} (h : May s) (ho : askOk s d) (hf : -128 ≤ d.field ∧ d.field ≤ 127) (hl : d.order.length ≤ 33554432) : ∀ e ∈ askEv s d, e.Fits ∧ e.order.length ≤ 33554432 := by
  have key : ∀ l : List Ev, (∀ e ∈ l, e.Fits ∧ e.order = []) → ∀ e ∈ l, e.Fits ∧ e.order.length ≤ 33554432 := fun l hh e he => ⟨(hh e he).1, by rw [(hh e he).2]; simp⟩
  unfold askOk at ho
  unfold askEv
  by_cases k0 : d.kind = 0
  · rw [if_pos k0] at ho ⊢
    exact key _ (moveEv_range h ho.1 ho.2)
  · rw [if_neg k0] at ho ⊢
    by_cases k1 : d.kind = 1
    · rw [if_pos k1] at ho ⊢
      exact key _ (changeEv_range h hf)
    · rw [if_neg k1] at ho ⊢
      by_cases k2 : d.kind = 2
      · rw [if_pos k2] at ho ⊢
        intro e he
        obtain ⟨a, b⟩ := shufEv_range h ho.1 e he
        exact ⟨a, by rw [b]; exact hl⟩
      · rw [if_neg k2] at ho ⊢
        by_cases k3 : d.kind = 3
        · rw [if_pos k3]
          exact key _ (drawEv_range h ho)
        · rw [if_neg k3]
          exact key _ (outEv_range h ho)
end Go.Proofs.YtmhklnjmeoeanaaGreatDoor.D
