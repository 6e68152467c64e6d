/- An event is taken back: what it leads to may be, has the same cards, and is led back; what leads to a state leads to it again. Plain Lean. -/
import Derived.Test.YtofgmijmhpmabaaGreatDoorDList
namespace Go.Proofs.YtofgmijmhpmabaaGreatDoor.D
open Go Go.RowKit
set_option linter.unusedVariables false
set_option linter.unusedSimpArgs false
/-- The same cards, by kinds and owners. -/
def SameKO (s t : St) : Prop := t.cards.length = s.cards.length ∧ t.zones.length = s.zones.length ∧ ∀ i, i < s.cards.length → (t.cards.getD i zeroCd).kind = (s.cards.getD i zeroCd).kind ∧ (t.cards.getD i zeroCd).owner = (s.cards.getD i zeroCd).owner
theorem SameKO.refl (s : St) : SameKO s s := ⟨rfl, rfl, fun _ _ => ⟨rfl, rfl⟩⟩
theorem SameKO.of_cards {s t : St} (h : t.cards = s.cards) (hz : t.zones.length = s.zones.length) : SameKO s t := ⟨by rw [h], hz, fun i _ => by rw [h]; exact ⟨rfl, rfl⟩⟩
theorem SameKO.symm {s t : St} (h : SameKO s t) : SameKO t s := ⟨h.1.symm, h.2.1.symm, fun i hi => by
  obtain ⟨a, b⟩ := h.2.2 i (by rw [← h.1]; exact hi)
  exact ⟨a.symm, b.symm⟩⟩
theorem SameKO.trans {s t u : St} (h : SameKO s t) (k : SameKO t u) : SameKO s u := ⟨k.1.trans h.1, k.2.1.trans h.2.1, fun i hi => by
  obtain ⟨a, b⟩ := h.2.2 i hi
  obtain ⟨c, d⟩ := k.2.2 i (by rw [h.1]; exact hi)
  exact ⟨c.trans a, d.trans b⟩⟩
/-- Zones that hold the same cards. -/
theorem May.zones {s : St} (h : May s) {zs : List (List Int)} (hl : zs.length = s.zones.length) (hp : zs.flatten.Perm s.zones.flatten) : May { s with zones := zs } :=
  ⟨h.n2, h.n4, h.m1, h.m256, hl.trans h.zn, h.pl, h.cd, fun c hc => h.rng c (hp.mem_iff.1 hc), hp.nodup_iff.2 h.nd, hp.length_eq.trans h.all, h.turn, h.whose, h.fin, h.won, h.lost⟩
/-! ### Move -/
theorem moveOk_nat {s : St} {card src srcAt dst dstAt : Int} (h : MoveOk s card src srcAt dst dstAt) : MvOk s.zones card src.toNat srcAt.toNat dst.toNat dstAt.toNat ∧ 0 ≤ src ∧ 0 ≤ srcAt ∧ 0 ≤ dst ∧ 0 ≤ dstAt := by
  obtain ⟨⟨a1, a2⟩, ⟨b1, b2⟩, c, ⟨d1, d2⟩, e, f1, f2⟩ := h
  unfold zone at d2 e f2
  have hpos : 0 < (s.zones.getD src.toNat []).length := by omega
  refine ⟨⟨by omega, by omega, fun g => c ⟨by omega, by omega⟩, by omega, e, ?_⟩, a1, d1, b1, f1⟩
  by_cases hs : src = dst
  · subst hs
    rw [if_pos rfl] at f2 ⊢
    omega
  · rw [if_neg hs] at f2
    rw [if_neg (by omega)]
    omega
theorem moveOk_int {s : St} {card src srcAt dst dstAt : Int} (h : MvOk s.zones card src.toNat srcAt.toNat dst.toNat dstAt.toNat) (h1 : 0 ≤ src) (h2 : 0 ≤ srcAt) (h3 : 0 ≤ dst) (h4 : 0 ≤ dstAt) : MoveOk s card src srcAt dst dstAt := by
  obtain ⟨a, b, c, d, e, f⟩ := h
  refine ⟨⟨h1, by omega⟩, ⟨h3, by omega⟩, fun g => c (by rw [g.1, g.2]; exact ⟨rfl, rfl⟩), ⟨h2, by unfold zone; omega⟩, e, h4, ?_⟩
  unfold zone
  by_cases hs : src = dst
  · subst hs
    rw [if_pos rfl] at f ⊢
    omega
  · rw [if_neg (by omega)] at f
    rw [if_neg hs]
    omega
theorem moveZ_nat (zs : List (List Int)) (card src srcAt dst dstAt : Int) : moveZ zs card src srcAt dst dstAt = mvZ zs card src.toNat srcAt.toNat dst.toNat dstAt.toNat := rfl
theorem moveS_facts {s t : St} {card src srcAt dst dstAt : Int} (h : moveS s card src srcAt dst dstAt = some t) (hm : May s) : moveS t card dst dstAt src srcAt = some s ∧ May t ∧ SameKO s t ∧ t ≠ s := by
  unfold moveS at h
  by_cases hk : MoveOk s card src srcAt dst dstAt
  · rw [if_pos hk] at h
    obtain rfl := Option.some.inj h
    obtain ⟨hn, h1, h2, h3, h4⟩ := moveOk_nat hk
    obtain ⟨b1, b2⟩ := mv_back hn
    have hk2 : MoveOk { s with zones := moveZ s.zones card src srcAt dst dstAt } card dst dstAt src srcAt := moveOk_int (by rw [moveZ_nat]; exact b1) h3 h4 h1 h2
    refine ⟨?_, hm.zones (by rw [moveZ_nat, mv_length]) (by rw [moveZ_nat]; exact mv_perm hn), SameKO.of_cards rfl (by simp only; rw [moveZ_nat, mv_length]), fun e => ?_⟩
    · unfold moveS
      rw [if_pos hk2]
      simp only
      rw [moveZ_nat, moveZ_nat, b2]
    · exact mv_ne hn hm.nd (congrArg St.zones e)
  · rw [if_neg hk] at h
    cases h
/-! ### Change -/
theorem card_set_get (c : Cd) (f v : Int) : cardF (cardSet c f v) f = v := by
  unfold cardF cardSet
  split
  · rfl
  · split
    · rfl
    · split <;> rfl
theorem card_set_back (c : Cd) (f v : Int) : cardSet (cardSet c f v) f (cardF c f) = c := by
  unfold cardF cardSet
  split
  · rfl
  · split
    · rfl
    · split <;> rfl
theorem pl_set_get (c : Pl) (f v : Int) : plF (plSet c f v) f = v := by
  unfold plF plSet
  split <;> rfl
theorem pl_set_back (c : Pl) (f v : Int) : plSet (plSet c f v) f (plF c f) = c := by
  unfold plF plSet
  split <;> rfl
theorem card_stat {n : Int} {c : Cd} (h : CardOk n c) (f : Int) : Stat (cardF c f) := by
  obtain ⟨_, _, h1, h2, h3, h4⟩ := h
  unfold cardF
  repeat' split
  all_goals assumption
theorem card_set_ok {n v : Int} {c : Cd} (h : CardOk n c) (f : Int) (hv : Stat v) : CardOk n (cardSet c f v) := by
  obtain ⟨a, b, h1, h2, h3, h4⟩ := h
  unfold cardSet
  repeat' split
  all_goals exact ⟨a, b, by assumption, by assumption, by assumption, by assumption⟩
theorem card_set_ko (c : Cd) (f v : Int) : (cardSet c f v).kind = c.kind ∧ (cardSet c f v).owner = c.owner := by
  unfold cardSet
  repeat' split
  all_goals exact ⟨rfl, rfl⟩
theorem getF_stat {s : St} {f n x : Int} (hm : May s) (h : getF s f n = some x) : Stat x := by
  unfold getF at h
  split at h
  · split at h
    · rename_i h1 h2
      obtain rfl := Option.some.inj h
      exact card_stat (hm.cd _ (mem_getD (by have := h2.2; unfold Within at this; omega))) f
    · cases h
  · split at h
    · rename_i h1 h2
      obtain rfl := Option.some.inj h
      obtain ⟨a, b⟩ := hm.pl _ (mem_getD (d := zeroPl) (i := n.toNat) (by have := h2.2; unfold Within at this; omega))
      unfold plF
      split <;> assumption
    · cases h
theorem getF_setF {s : St} {f n x v : Int} (h : getF s f n = some x) : getF (setF s f n v) f n = some v ∧ setF (setF s f n v) f n x = s := by
  unfold getF at h
  by_cases hf : f ≤ 4
  · rw [if_pos hf] at h
    split at h
    · rename_i h2
      obtain rfl := Option.some.inj h
      have hl : n.toNat < s.cards.length := by have := h2.2; unfold Within at this; omega
      unfold getF setF
      simp only [if_pos hf]
      rw [if_pos ⟨h2.1, by have := h2.2; unfold Within at this ⊢; rw [List.length_set]; exact this⟩]
      rw [getD_set_eq hl, card_set_get, List.set_set, card_set_back, set_self hl]
      exact ⟨rfl, rfl⟩
    · cases h
  · rw [if_neg hf] at h
    split at h
    · rename_i h2
      obtain rfl := Option.some.inj h
      have hl : n.toNat < s.players.length := by have := h2.2; unfold Within at this; omega
      unfold getF setF
      simp only [if_neg hf]
      rw [if_pos ⟨h2.1, by have := h2.2; unfold Within at this ⊢; rw [List.length_set]; exact this⟩]
      rw [getD_set_eq hl, pl_set_get, List.set_set, pl_set_back, set_self hl]
      exact ⟨rfl, rfl⟩
    · cases h
theorem mem_set_of {α : Type} {l : List α} {i : Nat} {a x : α} (h : x ∈ l.set i a) : x = a ∨ x ∈ l := (List.mem_or_eq_of_mem_set h).symm
theorem setF_may {s : St} {f n x v : Int} (hm : May s) (h : getF s f n = some x) (hv : Stat v) : May (setF s f n v) ∧ SameKO s (setF s f n v) := by
  unfold getF at h
  by_cases hf : f ≤ 4
  · rw [if_pos hf] at h
    split at h
    · rename_i h2
      have hl : n.toNat < s.cards.length := by have := h2.2; unfold Within at this; omega
      have hcl : (s.cards.set n.toNat (cardSet (s.cards.getD n.toNat zeroCd) f v)).length = s.cards.length := List.length_set ..
      unfold setF
      rw [if_pos hf]
      refine ⟨⟨hm.n2, hm.n4, by simp only; rw [hcl]; exact hm.m1, by simp only; rw [hcl]; exact hm.m256, hm.zn, hm.pl, fun c hc => ?_, by simp only; rw [hcl]; exact hm.rng, hm.nd, by simp only; rw [hcl]; exact hm.all, hm.turn, hm.whose, hm.fin, hm.won, hm.lost⟩, hcl, rfl, fun i hi => ?_⟩
      · rcases mem_set_of hc with rfl | hc
        · exact card_set_ok (hm.cd _ (mem_getD hl)) f hv
        · exact hm.cd c hc
      · simp only
        by_cases hin : n.toNat = i
        · subst hin
          rw [getD_set_eq hl]
          exact card_set_ko _ _ _
        · rw [getD_set_ne hin]
          exact ⟨rfl, rfl⟩
    · cases h
  · rw [if_neg hf] at h
    split at h
    · rename_i h2
      have hl : n.toNat < s.players.length := by have := h2.2; unfold Within at this; omega
      have hpl : (s.players.set n.toNat (plSet (s.players.getD n.toNat zeroPl) f v)).length = s.players.length := List.length_set ..
      unfold setF
      rw [if_neg hf]
      refine ⟨⟨by simp only; rw [hpl]; exact hm.n2, by simp only; rw [hpl]; exact hm.n4, hm.m1, hm.m256, by simp only; rw [hpl]; exact hm.zn, fun p hp => ?_, by simp only; rw [hpl]; exact hm.cd, hm.rng, hm.nd, hm.all, hm.turn, by simp only; rw [hpl]; exact hm.whose, hm.fin, by simp only; rw [hpl]; exact hm.won, hm.lost⟩, rfl, rfl, fun i hi => ⟨rfl, rfl⟩⟩
      rcases mem_set_of hp with rfl | hp
      · have := hm.pl _ (mem_getD (d := zeroPl) hl)
        unfold plSet
        split
        · exact ⟨hv, this.2⟩
        · exact ⟨this.1, hv⟩
      · exact hm.pl p hp
    · cases h
theorem changeS_facts {s t : St} {f n was now : Int} (h : changeS s f n was now = some t) (hm : May s) : changeS t f n now was = some s ∧ May t ∧ SameKO s t ∧ t ≠ s := by
  unfold changeS at h
  split at h
  · rename_i hk
    obtain ⟨hg, hne, hs⟩ := hk
    obtain rfl := Option.some.inj h
    obtain ⟨g1, g2⟩ := getF_setF (v := now) hg
    obtain ⟨m1, m2⟩ := setF_may hm hg hs
    refine ⟨?_, m1, m2, fun e => ?_⟩
    · unfold changeS
      rw [if_pos ⟨g1, fun e => hne e.symm, getF_stat hm hg⟩, g2]
    · rw [e, hg] at g1
      exact hne (Option.some.inj g1)
  · cases h
/-! ### Shuffle, out, turn, end -/
theorem shuffleS_facts {s t : St} {z : Int} {order : List Int} {back : Bool} (h : shuffleS s z order back = some t) (hm : May s) : shuffleS t z order (!back) = some s ∧ May t ∧ SameKO s t ∧ t ≠ s := by
  unfold shuffleS at h
  split at h
  · rename_i hk
    obtain ⟨hw, ho, hr⟩ := hk
    have hl : z.toNat < s.zones.length := by unfold Within at hw; omega
    unfold zone at ho h
    obtain rfl := Option.some.inj h
    obtain ⟨l, hlz⟩ : ∃ l, l = s.zones.getD z.toNat [] := ⟨_, rfl⟩
    rw [← hlz] at ho ⊢
    have hnd : l.Nodup := by rw [hlz]; exact nodup_zone hm.nd hl
    have hp : (if back = true then shufB order l else shufF order l).Perm l := by
      cases back
      · exact shufF_perm ho
      · exact shufB_perm ho
    have hzl : (s.zones.set z.toNat (if back = true then shufB order l else shufF order l)).length = s.zones.length := List.length_set ..
    have hback : (if (!back) = true then shufB order (if back = true then shufB order l else shufF order l) else shufF order (if back = true then shufB order l else shufF order l)) = l := by
      cases back
      · exact shuf_bf ho
      · exact shuf_fb ho
    refine ⟨?_, hm.zones hzl (set_perm hl (by rw [← hlz]; exact hp)), SameKO.of_cards rfl hzl, fun e => ?_⟩
    · unfold shuffleS zone
      simp only
      rw [getD_set_eq hl, if_pos ⟨by unfold Within at hw ⊢; rw [hzl]; exact hw, by rw [hp.length_eq]; exact ho, hr⟩, hback, List.set_set, hlz, set_self hl]
    · have e2 := congrArg (fun t : St => t.zones.getD z.toNat []) e
      simp only at e2
      rw [getD_set_eq hl, ← hlz] at e2
      have e3 : shufF order l = l := by
        cases back
        · exact e2
        · have := shuf_fb ho
          rw [show shufB order l = l from e2] at this
          exact this
      exact shuf_ne ho hnd hr e3
  · cases h
theorem outS_facts {s t : St} {p : Int} {now : Bool} (h : outS s p now = some t) (hm : May s) : outS t p (!now) = some s ∧ May t ∧ SameKO s t ∧ t ≠ s := by
  unfold outS at h
  split at h
  · rename_i hk
    obtain ⟨hw, ho⟩ := hk
    have hl : p.toNat < s.players.length := by unfold Within at hw; omega
    obtain rfl := Option.some.inj h
    have hpl : (s.players.set p.toNat { s.players.getD p.toNat zeroPl with out := now }).length = s.players.length := List.length_set ..
    have hov : (s.players.getD p.toNat zeroPl).out = !now := by
      cases h1 : (s.players.getD p.toNat zeroPl).out <;> cases now <;> simp_all
    refine ⟨?_, ⟨by simp only; rw [hpl]; exact hm.n2, by simp only; rw [hpl]; exact hm.n4, hm.m1, hm.m256, by simp only; rw [hpl]; exact hm.zn, fun q hq => ?_, by simp only; rw [hpl]; exact hm.cd, hm.rng, hm.nd, hm.all, hm.turn, by simp only; rw [hpl]; exact hm.whose, hm.fin, by simp only; rw [hpl]; exact hm.won, hm.lost⟩, ⟨rfl, rfl, fun i hi => ⟨rfl, rfl⟩⟩, fun e => ?_⟩
    · unfold outS
      simp only
      rw [getD_set_eq hl, if_pos ⟨by unfold Within at hw ⊢; rw [hpl]; exact hw, by cases now <;> simp⟩, List.set_set]
      simp only
      rw [← hov, set_self hl]
    · rcases mem_set_of hq with rfl | hq
      · have h9 := hm.pl _ (mem_getD (d := zeroPl) hl)
        exact ⟨h9.1, h9.2⟩
      · exact hm.pl q hq
    · have e2 := congrArg (fun t : St => (t.players.getD p.toNat zeroPl).out) e
      simp only at e2
      rw [getD_set_eq hl] at e2
      exact ho e2.symm
  · cases h
/-- An event that is done is taken back. -/
theorem do_facts {s t : St} {e : Ev} (h : doE s e = some t) (hm : May s) : backE t e = some s ∧ May t ∧ SameKO s t ∧ t ≠ s := by
  unfold doE at h
  unfold backE
  split at h
  · rename_i hk
    rw [if_pos hk]
    exact moveS_facts h hm
  · rename_i k1
    rw [if_neg k1]
    split at h
    · rename_i hk
      rw [if_pos hk]
      split at h
      · rename_i hf
        rw [if_pos hf]
        exact changeS_facts h hm
      · cases h
    · rename_i k2
      rw [if_neg k2]
      split at h
      · rename_i hk
        rw [if_pos hk]
        split at h
        · rename_i hf
          rw [if_pos hf]
          exact changeS_facts h hm
        · cases h
      · rename_i k3
        rw [if_neg k3]
        split at h
        · rename_i hk
          rw [if_pos hk]
          exact shuffleS_facts h hm
        · rename_i k4
          rw [if_neg k4]
          split at h
          · rename_i hk
            rw [if_pos hk]
            exact outS_facts h hm
          · rename_i k5
            rw [if_neg k5]
            split at h
            · rename_i hk
              rw [if_pos hk]
              unfold turnS at h
              split at h
              · rename_i hc
                obtain ⟨c1, c2, c3, c4⟩ := hc
                obtain rfl := Option.some.inj h
                have ht := hm.turn
                have hwh := hm.whose
                refine ⟨?_, ⟨hm.n2, hm.n4, hm.m1, hm.m256, hm.zn, hm.pl, hm.cd, hm.rng, hm.nd, hm.all, by simp only; omega, c3, hm.fin, hm.won, hm.lost⟩, SameKO.of_cards rfl rfl, fun g => ?_⟩
                · rw [if_pos (by omega)]
                  unfold turnS
                  simp only
                  rw [if_pos ⟨trivial, trivial, by rw [← c2]; exact hwh, by omega⟩, ← c1, ← c2]
                · have := congrArg St.turn g
                  simp only at this
                  omega
              · cases h
            · rename_i k6
              rw [if_neg k6]
              split at h
              · rename_i hk
                rw [if_pos hk]
                unfold endS at h
                split at h
                · rename_i hc
                  obtain ⟨c1, c2⟩ := hc
                  obtain rfl := Option.some.inj h
                  have hlo := hm.lost
                  refine ⟨?_, ⟨hm.n2, hm.n4, hm.m1, hm.m256, hm.zn, hm.pl, hm.cd, hm.rng, hm.nd, hm.all, hm.turn, hm.whose, by simp only; omega, fun g => ?_, fun g => ?_⟩, SameKO.of_cards rfl rfl, fun g => ?_⟩
                  · unfold endB
                    simp only
                    rw [if_pos ⟨by omega, trivial, trivial⟩]
                    have h9 := hlo (by omega)
                    clear hm hlo c2
                    obtain ⟨a1, a2, a3, a4, a5, a6, a7⟩ := s
                    simp only at c1 h9 ⊢
                    rw [c1, h9]
                  · simp only at g ⊢
                    rcases c2 with ⟨_, c⟩ | ⟨c, _⟩
                    · exact c
                    · omega
                  · simp only at g ⊢
                    rcases c2 with ⟨c, _⟩ | ⟨_, c⟩
                    · omega
                    · exact c
                  · have := congrArg St.fin g
                    simp only at this
                    omega
                · cases h
              · cases h
/-- What leads to a state leads to it again. -/
theorem back_facts {s t : St} {e : Ev} (h : backE s e = some t) (hm : May s) (ht : May t) : doE t e = some s ∧ SameKO s t := by
  unfold backE at h
  unfold doE
  split at h
  · rename_i hk
    rw [if_pos hk]
    have := moveS_facts h hm
    exact ⟨this.1, this.2.2.1⟩
  · rename_i k1
    rw [if_neg k1]
    split at h
    · rename_i hk
      rw [if_pos hk]
      split at h
      · rename_i hf
        rw [if_pos hf]
        have := changeS_facts h hm
        exact ⟨this.1, this.2.2.1⟩
      · cases h
    · rename_i k2
      rw [if_neg k2]
      split at h
      · rename_i hk
        rw [if_pos hk]
        split at h
        · rename_i hf
          rw [if_pos hf]
          have := changeS_facts h hm
          exact ⟨this.1, this.2.2.1⟩
        · cases h
      · rename_i k3
        rw [if_neg k3]
        split at h
        · rename_i hk
          rw [if_pos hk]
          have := shuffleS_facts h hm
          exact ⟨this.1, this.2.2.1⟩
        · rename_i k4
          rw [if_neg k4]
          split at h
          · rename_i hk
            rw [if_pos hk]
            have := outS_facts h hm
            exact ⟨this.1, this.2.2.1⟩
          · rename_i k5
            rw [if_neg k5]
            split at h
            · rename_i hk
              rw [if_pos hk]
              split at h
              · rename_i hw
                unfold turnS at h
                split at h
                · rename_i hc
                  obtain ⟨c1, c2, c3, c4⟩ := hc
                  obtain rfl := Option.some.inj h
                  have hwh := hm.whose
                  refine ⟨?_, SameKO.of_cards rfl rfl⟩
                  unfold turnS
                  simp only
                  rw [if_pos ⟨trivial, trivial, by rw [← c2]; exact hwh, by omega⟩, ← c1, ← c2]
                · cases h
              · cases h
            · rename_i k6
              rw [if_neg k6]
              split at h
              · rename_i hk
                rw [if_pos hk]
                unfold endB at h
                split at h
                · rename_i hc
                  obtain ⟨c1, c2, c3⟩ := hc
                  obtain rfl := Option.some.inj h
                  have hf := hm.fin
                  have hwo := hm.won
                  have hlo := hm.lost
                  refine ⟨?_, SameKO.of_cards rfl rfl⟩
                  unfold endS
                  simp only
                  have hc : (e.now = 1 ∧ Within e.player s.players.length) ∨ (e.now = 2 ∧ e.player = 0) := by
                    by_cases h1 : s.fin = 1
                    · exact .inl ⟨by omega, by rw [← c3]; exact hwo h1⟩
                    · exact .inr ⟨by omega, by rw [← c3]; exact hlo h1⟩
                  rw [if_pos ⟨trivial, hc⟩, ← c2, ← c3]
                · cases h
              · cases h
end Go.Proofs.YtofgmijmhpmabaaGreatDoor.D
