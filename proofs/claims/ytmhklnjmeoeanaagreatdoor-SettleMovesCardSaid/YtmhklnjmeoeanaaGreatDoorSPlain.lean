/- What is due in a state, in plain Lean: who is moved, who is out, who has won; what it leads to. No program in sight. -/
import Derived.Test.YtmhklnjmeoeanaaGreatDoorDField
namespace Go.Proofs.YtmhklnjmeoeanaaGreatDoor.D
open Go Go.RowKit
set_option linter.unusedVariables false
set_option linter.unusedSimpArgs false
def cdAt (s : St) (c : Int) : Cd := s.cards.getD c.toNat zeroCd
def plAt (s : St) (p : Int) : Pl := s.players.getD p.toNat zeroPl
/-- The players, from the one whose turn it is. -/
def ringL (s : St) : List Int := (List.range s.players.length).map fun i : Nat => (s.whose + (i : Int)) % (s.players.length : Int)
def spentB (s : St) (c : Int) : Bool := decide ((cdAt s c).health ≤ (cdAt s c).damage)
/-- The spent cards of a player's board. -/
def spentL (s : St) (p : Int) : List Int := (zone s (4 * p + 2)).filter (spentB s)
def deadL (s : St) : List Int := (ringL s).flatMap (spentL s)
def graveOf (s : St) (c : Int) : Int := 4 * (cdAt s c).owner + 3
def doneE (a : St × List Ev) (e : Ev) : St × List Ev := ((stepE a.1 e false).getD zeroSt, a.2 ++ [e])
def doEs (a : St × List Ev) (es : List Ev) : St × List Ev := es.foldl doneE a
def killE (s : St) (a : St × List Ev) (c : Int) : St × List Ev := doEs a (moveEv a.1 c (graveOf s c) false)
def dropE (s : St) (a : St × List Ev) (p : Int) : St × List Ev := if (plAt s p).out = true then a else if (plAt s p).life ≤ 0 then doEs a (outEv a.1 p) else a
def inB (s : St) (p : Int) : Bool := !(plAt s p).out && decide (0 < (plAt s p).life)
def inL (s : St) : List Int := (ringL s).filter (inB s)
def endOf (l : List Int) : Ev := match l.getLast? with
  | none => { zeroEv with kind := 7, now := 2 }
  | some p => { zeroEv with kind := 7, now := 1, player := p }
/-- What is due, and what it leads to. -/
def dueP (s : St) : St × List Ev :=
  if s.fin ≠ 0 then (s, [])
  else
    let a := (ringL s).foldl (dropE s) ((deadL s).foldl (killE s) (s, []))
    if (inL s).length < 2 then doEs a [endOf (inL s)] else a
/-! ### The ring -/
theorem ring_mem {s : St} (h : May s) {p : Int} : p ∈ ringL s ↔ Within p s.players.length := by
  have hn := h.n2
  have hw := h.whose
  unfold ringL Within
  constructor
  · intro hp
    obtain ⟨i, hi, rfl⟩ := List.mem_map.1 hp
    exact ⟨Int.emod_nonneg _ (by omega), Int.emod_lt_of_pos _ (by omega)⟩
  · rintro ⟨h0, h1⟩
    by_cases hc : s.whose ≤ p
    · refine List.mem_map.2 ⟨(p - s.whose).toNat, List.mem_range.2 (by omega), ?_⟩
      rw [Int.toNat_of_nonneg (by omega), show s.whose + (p - s.whose) = p by omega]
      exact Int.emod_eq_of_lt h0 h1
    · refine List.mem_map.2 ⟨(p - s.whose + s.players.length).toNat, List.mem_range.2 (by omega), ?_⟩
      rw [Int.toNat_of_nonneg (by omega), show s.whose + (p - s.whose + s.players.length) = p + s.players.length by omega, Int.add_emod_right]
      exact Int.emod_eq_of_lt h0 h1
theorem ring_nodup {s : St} (h : May s) : (ringL s).Nodup := by
  have hn := h.n2
  have hw := h.whose
  unfold ringL
  rw [List.nodup_iff_pairwise_ne, List.pairwise_map]
  refine (List.nodup_range.imp_of_mem (R := fun a b => a ≠ b)) ?_ |>.imp (fun h => h)
  intro a b ha hb hne he
  have ha := List.mem_range.1 ha
  have hb := List.mem_range.1 hb
  apply hne
  have h1 : (s.whose + (a : Int)) % s.players.length = if s.whose + (a : Int) < s.players.length then s.whose + (a : Int) else s.whose + (a : Int) - s.players.length := by
    split
    · exact Int.emod_eq_of_lt (by omega) (by omega)
    · rw [← Int.sub_emod_right]
      exact Int.emod_eq_of_lt (by omega) (by omega)
  have h2 : (s.whose + (b : Int)) % s.players.length = if s.whose + (b : Int) < s.players.length then s.whose + (b : Int) else s.whose + (b : Int) - s.players.length := by
    split
    · exact Int.emod_eq_of_lt (by omega) (by omega)
    · rw [← Int.sub_emod_right]
      exact Int.emod_eq_of_lt (by omega) (by omega)
  rw [h1, h2] at he
  split at he <;> split at he <;> omega
/-! ### One event behind the other -/
theorem run_one {s t u : St} {l : List Ev} {e : Ev} (h : runE s l = some t) (hs : stepE t e false = some u) : runE s (l ++ [e]) = some u := by
  rw [run_app h]
  unfold runE
  rw [hs]
  rfl
theorem doEs_one {a : St × List Ev} {e : Ev} {t : St} (h : stepE a.1 e false = some t) : doEs a [e] = (t, a.2 ++ [e]) := by
  show ((stepE a.1 e false).getD zeroSt, a.2 ++ [e]) = _
  rw [h]
  rfl
/-! ### Who is moved -/
theorem zone_one : ∀ {zs : List (List Int)} (hn : zs.flatten.Nodup) {i j : Nat} (hi : i < zs.length) (hj : j < zs.length) {c : Int} (h1 : c ∈ zs.getD i []) (h2 : c ∈ zs.getD j []), i = j
  | [], _, i, _, hi, _, _, _, _ => by simp at hi
  | l :: zs, hn, i, j, hi, hj, c, h1, h2 => by
    rw [List.flatten_cons, List.nodup_append] at hn
    have key : ∀ {k : Nat}, k < zs.length → c ∈ zs.getD k [] → c ∈ zs.flatten := fun hk hm => List.mem_flatten.2 ⟨_, mem_getD hk, hm⟩
    cases i with
    | zero =>
      cases j with
      | zero => rfl
      | succ j => exact absurd rfl (hn.2.2 c h1 c (key (by simpa using hj) (by simpa using h2)))
    | succ i =>
      cases j with
      | zero => exact absurd rfl (hn.2.2 c h2 c (key (by simpa using hi) (by simpa using h1)))
      | succ j => exact congrArg (· + 1) (zone_one hn.2.1 (by simpa using hi) (by simpa using hj) (by simpa using h1) (by simpa using h2))
theorem zone_nodup : ∀ {zs : List (List Int)} (hn : zs.flatten.Nodup) (i : Nat), (zs.getD i []).Nodup
  | [], _, i => by simp
  | l :: zs, hn, i => by
    rw [List.flatten_cons, List.nodup_append] at hn
    cases i with
    | zero => exact hn.1
    | succ i => simpa using zone_nodup hn.2.1 i
theorem zoneOf_eq {s : St} {c : Int} {z : Nat} (h : May s) (hz : z < s.zones.length) (hc : c ∈ s.zones.getD z []) : zoneOf s.zones c = z ∧ Within c s.cards.length := by
  have hw : Within c s.cards.length := h.rng c (List.mem_flatten.2 ⟨_, mem_getD hz, hc⟩)
  obtain ⟨p1, p2, p3⟩ := place_ok h hw
  exact ⟨zone_one h.nd p1 hz (by have h9 := mem_getD (d := 0) p2; rw [p3] at h9; exact h9) hc, hw⟩
/-- What a state has become while cards were moved. -/
structure KillI (s t : St) (l : List Ev) (done : List Int) : Prop where
  run : runE s l = some t
  same : t = { s with zones := t.zones }
  len : t.zones.length = s.zones.length
  board : ∀ z, z % 4 = 2 → t.zones.getD z [] = (s.zones.getD z []).filter fun c => decide (c ∉ done)
  grave : ∀ z, z % 4 = 3 → z < s.zones.length → t.zones.getD z [] = s.zones.getD z [] ++ done.filter fun c => decide (graveOf s c = (z : Int))
  other : ∀ z, z % 4 ≠ 2 → z % 4 ≠ 3 → t.zones.getD z [] = s.zones.getD z []
  evs : l.map (·.card) = done ∧ ∀ e ∈ l, e.kind = 1 ∧ e.src % 4 = 2 ∧ e.dst = graveOf s e.card ∧ e.order = []
theorem KillI.keep {s t : St} {l : List Ev} {done : List Int} (k : KillI s t l done) : t.players = s.players ∧ t.cards = s.cards ∧ t.turn = s.turn ∧ t.whose = s.whose ∧ t.fin = s.fin ∧ t.winner = s.winner := by
  rw [k.same]
  exact ⟨rfl, rfl, rfl, rfl, rfl, rfl⟩
theorem KillI.start (s : St) : KillI s s [] [] := ⟨rfl, rfl, rfl, fun z _ => (List.filter_eq_self.2 fun c _ => by simp).symm, fun z _ _ => by simp, fun _ _ _ => rfl, rfl, fun e h => by cases h⟩
theorem grave_ok {s : St} {c : Int} (h : May s) (hc : Within c s.cards.length) : ∃ g : Nat, graveOf s c = (g : Int) ∧ g < s.zones.length ∧ g % 4 = 3 := by
  have hk := h.cd (cdAt s c) (by unfold cdAt; exact mem_getD (by have := hc.1; have := hc.2; omega))
  have ho := hk.2.1
  have hz := h.zn
  refine ⟨(graveOf s c).toNat, ?_, ?_, ?_⟩ <;> unfold graveOf <;> omega
theorem kill_step {s : St} {a : St × List Ev} {done : List Int} {c : Int} {z : Nat} (h : May s) (k : KillI s a.1 a.2 done) (hz : z < s.zones.length) (hz4 : z % 4 = 2) (hc : c ∈ s.zones.getD z []) (hd : c ∉ done) : KillI s (killE s a c).1 (killE s a c).2 (done ++ [c]) := by
  obtain ⟨t, l⟩ := a
  have hm : May t := (run_back h k.run).2.1
  have hct : c ∈ t.zones.getD z [] := by rw [k.board z hz4]; exact List.mem_filter.2 ⟨hc, by simpa using hd⟩
  have hzt : z < t.zones.length := by rw [k.len]; exact hz
  obtain ⟨e1, hw⟩ := zoneOf_eq hm hzt hct
  have hws : Within c s.cards.length := (zoneOf_eq h hz hc).2
  obtain ⟨g, hg, hgl, hg4⟩ := grave_ok h hws
  have hgt : g < t.zones.length := by rw [k.len]; exact hgl
  have hne : z ≠ g := by omega
  have hev : moveEv t c (graveOf s c) false = [{ zeroEv with kind := 1, card := c, src := z, srcAt := atOf t.zones c, dst := g, dstAt := (t.zones.getD g []).length }] := by
    unfold moveEv
    rw [e1, hg]
    have hne2 : ¬ (z : Int) = (g : Int) := by omega
    simp only [hne2, false_and, if_false, Bool.false_eq_true]
    unfold zone
    rw [Int.toNat_natCast]
  obtain ⟨e, he⟩ : ∃ e : Ev, e = { zeroEv with kind := 1, card := c, src := z, srcAt := atOf t.zones c, dst := g, dstAt := (t.zones.getD g []).length } := ⟨_, rfl⟩
  rw [← he] at hev
  obtain ⟨hp, u, hu⟩ := moveEv_fits (first := false) hm hw (zn := graveOf s c) (by rw [hg]; exact ⟨by omega, by omega⟩) e (by rw [hev]; exact List.mem_singleton.2 rfl)
  have hs := step_fits hp hu
  have hk : killE s (t, l) c = (u, l ++ [e]) := by
    show doEs (t, l) (moveEv t c (graveOf s c) false) = _
    rw [hev]
    exact doEs_one hs
  have hat : atOf t.zones c = (t.zones.getD z []).idxOf c := by unfold atOf; rw [e1]
  have huz : u = { t with zones := moveZ t.zones c z (atOf t.zones c) g (t.zones.getD g []).length } := by
    unfold doE at hu
    rw [he] at hu
    simp only [if_true] at hu
    unfold moveS at hu
    split at hu
    · exact (Option.some.inj hu).symm
    · cases hu
  have hmz : moveZ t.zones c z (atOf t.zones c) g (t.zones.getD g []).length = (t.zones.set z ((t.zones.getD z []).filter fun x => decide (x ≠ c))).set g (t.zones.getD g [] ++ [c]) := by
    unfold moveZ
    simp only [Int.toNat_natCast]
    rw [getD_set_ne hne, List.insertIdx_length_self, hat, ← List.erase_eq_eraseIdx_of_idxOf rfl, (zone_nodup hm.nd z).erase_eq_filter]
    congr 2
    exact List.filter_congr fun x _ => by by_cases hx : x = c <;> simp [hx]
  rw [hmz] at huz
  rw [hk]
  have hzl : u.zones.length = t.zones.length := by rw [huz]; simp
  have hzz : ∀ y, u.zones.getD y [] = if y = g then t.zones.getD g [] ++ [c] else if y = z then (t.zones.getD z []).filter (fun x => decide (x ≠ c)) else t.zones.getD y [] := fun y => by
    rw [huz]
    show ((t.zones.set z _).set g _).getD y [] = _
    by_cases h1 : y = g
    · subst h1
      rw [if_pos rfl, getD_set_eq (by simpa using hgt)]
    · rw [if_neg h1, getD_set_ne (Ne.symm h1)]
      by_cases h2 : y = z
      · subst h2
        rw [if_pos rfl, getD_set_eq hzt]
      · rw [if_neg h2, getD_set_ne (Ne.symm h2)]
  refine ⟨run_one k.run hs, ?_, hzl.trans k.len, ?_, ?_, ?_, ?_, ?_⟩
  · have h9 : t = { s with zones := t.zones } := k.same
    rw [huz]
    exact congrArg (fun q : St => { q with zones := (t.zones.set z ((t.zones.getD z []).filter fun x => decide (x ≠ c))).set g (t.zones.getD g [] ++ [c]) }) h9
  · intro y hy
    show u.zones.getD y [] = _
    rw [hzz, if_neg (by omega)]
    by_cases h2 : y = z
    · subst h2
      rw [if_pos rfl, k.board y hy, List.filter_filter]
      exact List.filter_congr fun x _ => by simp [and_comm]
    · rw [if_neg h2, k.board y hy]
      refine List.filter_congr fun x hx => ?_
      have hxc : x ≠ c := fun e => by
        subst e
        have hyl : y < s.zones.length := by
          by_cases hh : y < s.zones.length
          · exact hh
          · rw [List.getD_eq_getElem?_getD, List.getElem?_eq_none (by omega)] at hx
            cases hx
        exact h2 (zone_one h.nd hyl hz hx hc)
      simp [hxc]
  · intro y hy hyl
    show u.zones.getD y [] = _
    rw [hzz]
    by_cases h1 : y = g
    · subst h1
      rw [if_pos rfl, k.grave y hy hyl, List.filter_append, List.append_assoc]
      simp [hg]
    · rw [if_neg h1, if_neg (by omega), k.grave y hy hyl, List.filter_append]
      have : ¬ graveOf s c = (y : Int) := by omega
      simp [this]
  · intro y hy2 hy3
    show u.zones.getD y [] = _
    rw [hzz, if_neg (by omega), if_neg (by omega)]
    exact k.other y hy2 hy3
  · show (l ++ [e]).map _ = _
    rw [List.map_append, k.evs.1, he]
    rfl
  · intro e' he'
    rcases List.mem_append.1 he' with h1 | h1
    · exact k.evs.2 e' h1
    · obtain rfl := List.mem_singleton.1 h1
      rw [he]
      exact ⟨rfl, by show (z : Int) % 4 = 2; omega, hg.symm, rfl⟩
/-- A card that lies on a board. -/
def OnBoard (s : St) (c : Int) : Prop := ∃ z, z < s.zones.length ∧ z % 4 = 2 ∧ c ∈ s.zones.getD z []
theorem kills {s : St} (h : May s) : ∀ (cs : List Int) {a : St × List Ev} {done : List Int}, KillI s a.1 a.2 done → (∀ c ∈ cs, OnBoard s c) → (done ++ cs).Nodup → KillI s (cs.foldl (killE s) a).1 (cs.foldl (killE s) a).2 (done ++ cs)
  | [], a, done, k, _, _ => by simpa using k
  | c :: cs, a, done, k, hb, hn => by
    obtain ⟨z, hz, hz4, hc⟩ := hb c (by simp)
    have hd : c ∉ done := fun hd => (List.nodup_append.1 hn).2.2 c hd c (by simp) rfl
    have := kills h cs (kill_step h k hz hz4 hc hd) (fun c' hc' => hb c' (List.mem_cons_of_mem _ hc')) (by rw [List.append_assoc]; exact hn)
    rw [List.append_assoc] at this
    exact this
theorem spent_on {s : St} (h : May s) {p c : Int} (hp : Within p s.players.length) (hc : c ∈ spentL s p) : (4 * p + 2).toNat < s.zones.length ∧ (4 * p + 2).toNat % 4 = 2 ∧ c ∈ s.zones.getD (4 * p + 2).toNat [] ∧ spentB s c = true := by
  have hz := h.zn
  obtain ⟨h0, h1⟩ := hp
  obtain ⟨h2, h3⟩ := List.mem_filter.1 hc
  exact ⟨by omega, by omega, h2, h3⟩
theorem dead_on {s : St} (h : May s) {c : Int} (hc : c ∈ deadL s) : OnBoard s c := by
  obtain ⟨p, hp, hcp⟩ := List.mem_flatMap.1 hc
  obtain ⟨a, b, d, _⟩ := spent_on h ((ring_mem h).1 hp) hcp
  exact ⟨_, a, b, d⟩
theorem dead_spent {s : St} (h : May s) {c : Int} (hc : c ∈ deadL s) : spentB s c = true := by
  obtain ⟨p, hp, hcp⟩ := List.mem_flatMap.1 hc
  exact (spent_on h ((ring_mem h).1 hp) hcp).2.2.2
theorem flat_nodup {s : St} (h : May s) : ∀ (l : List Int), l.Nodup → (∀ p ∈ l, Within p s.players.length) → (l.flatMap (spentL s)).Nodup
  | [], _, _ => by simp
  | p :: l, hn, hp => by
    rw [List.flatMap_cons, List.nodup_append]
    obtain ⟨n1, n2⟩ := List.nodup_cons.1 hn
    refine ⟨(zone_nodup h.nd _).filter _, flat_nodup h l n2 fun q hq => hp q (List.mem_cons_of_mem _ hq), ?_⟩
    intro c hc d hd e
    subst e
    obtain ⟨q, hq, hcq⟩ := List.mem_flatMap.1 hd
    have w1 := hp p (by simp)
    have w2 := hp q (List.mem_cons_of_mem _ hq)
    obtain ⟨a1, _, a3, _⟩ := spent_on h w1 hc
    obtain ⟨b1, _, b3, _⟩ := spent_on h w2 hcq
    have := zone_one h.nd a1 b1 a3 b3
    have : p = q := by have := w1.1; have := w2.1; omega
    exact n1 (this ▸ hq)
theorem dead_nodup {s : St} (h : May s) : (deadL s).Nodup := flat_nodup h _ (ring_nodup h) fun p hp => (ring_mem h).1 hp
/-- A card of a board that is spent is due. -/
theorem dead_mem {s : St} (h : May s) {z : Nat} {c : Int} (hz : z < s.zones.length) (hz4 : z % 4 = 2) (hc : c ∈ s.zones.getD z []) (hs : spentB s c = true) : c ∈ deadL s := by
  have hzn := h.zn
  refine List.mem_flatMap.2 ⟨((z / 4 : Nat) : Int), (ring_mem h).2 ⟨by omega, by omega⟩, List.mem_filter.2 ⟨?_, hs⟩⟩
  show c ∈ s.zones.getD (4 * ((z / 4 : Nat) : Int) + 2).toNat []
  rw [show (4 * ((z / 4 : Nat) : Int) + 2).toNat = z by omega]
  exact hc
theorem killed {s : St} (h : May s) : KillI s ((deadL s).foldl (killE s) (s, [])).1 ((deadL s).foldl (killE s) (s, [])).2 (deadL s) := by
  have := kills h (deadL s) (a := (s, [])) (done := []) (KillI.start s) (fun c hc => dead_on h hc) (by simpa using dead_nodup h)
  simpa using this
/-! ### Who is out -/
def outOne (p : Int) : Ev := { zeroEv with kind := 5, player := p }
/-- What a state has become while players went out. -/
structure DropI (s u t : St) (l0 l : List Ev) (gone : List Int) : Prop where
  run : runE s l = some t
  same : t = { u with players := t.players }
  len : t.players.length = u.players.length
  pl : ∀ p : Int, 0 ≤ p → plAt t p = if p ∈ gone then { plAt u p with out := true } else plAt u p
  evs : l = l0 ++ gone.map outOne
theorem DropI.keep {s u t : St} {l0 l : List Ev} {gone : List Int} (k : DropI s u t l0 l gone) : t.zones = u.zones ∧ t.cards = u.cards ∧ t.turn = u.turn ∧ t.whose = u.whose ∧ t.fin = u.fin ∧ t.winner = u.winner := by
  rw [k.same]
  exact ⟨rfl, rfl, rfl, rfl, rfl, rfl⟩
theorem DropI.start {s u : St} {l : List Ev} (h : runE s l = some u) : DropI s u u l l [] := ⟨h, rfl, rfl, fun p _ => by simp, by simp⟩
theorem drop_step {s u : St} {a : St × List Ev} {l0 : List Ev} {gone : List Int} {p : Int} (h : May s) (k : DropI s u a.1 l0 a.2 gone) (hp : Within p u.players.length) (hd : p ∉ gone) (ho : (plAt u p).out = false) : DropI s u (doEs a (outEv a.1 p)).1 l0 (doEs a (outEv a.1 p)).2 (gone ++ [p]) := by
  obtain ⟨t, l⟩ := a
  have hpt : Within p t.players.length := by rw [k.len]; exact hp
  have hat : plAt t p = plAt u p := by rw [k.pl p hp.1, if_neg hd]
  have hev : outEv t p = [outOne p] := by
    unfold outEv
    have : (t.players.getD p.toNat zeroPl).out = false := by
      have h9 : plAt t p = t.players.getD p.toNat zeroPl := rfl
      rw [← h9, hat]
      exact ho
    rw [this]
    rfl
  obtain ⟨hpl, v, hv⟩ := outEv_fits (s := t) hpt (outOne p) (by rw [hev]; exact List.mem_singleton.2 rfl)
  have hs := step_fits hpl hv
  have hk : doEs (t, l) (outEv t p) = (v, l ++ [outOne p]) := by
    rw [hev]
    exact doEs_one hs
  have hvz : v = { t with players := t.players.set p.toNat { plAt t p with out := true } } := by
    unfold doE at hv
    simp only [outOne, zeroEv] at hv
    simp only [show ¬ (5 : Int) = 1 by decide, show ¬ (5 : Int) = 2 by decide, show ¬ (5 : Int) = 3 by decide, show ¬ (5 : Int) = 4 by decide, if_false, if_true] at hv
    unfold outS at hv
    split at hv
    · exact (Option.some.inj hv).symm
    · cases hv
  show DropI s u (doEs (t, l) (outEv t p)).1 l0 (doEs (t, l) (outEv t p)).2 (gone ++ [p])
  rw [hk]
  have hpz := hpt.2
  have hp0 := hp.1
  refine ⟨run_one k.run hs, ?_, ?_, ?_, ?_⟩
  · have h9 : t = { u with players := t.players } := k.same
    rw [hvz]
    exact congrArg (fun q : St => { q with players := t.players.set p.toNat { plAt t p with out := true } }) h9
  · show v.players.length = _
    rw [hvz]
    show (t.players.set _ _).length = _
    rw [List.length_set]
    exact k.len
  · intro q hq
    show plAt v q = _
    rw [hvz]
    show (t.players.set p.toNat _).getD q.toNat zeroPl = _
    by_cases hqp : q = p
    · subst hqp
      rw [getD_set_eq (by omega), hat]
      simp
    · rw [getD_set_ne (by omega)]
      show plAt t q = _
      rw [k.pl q hq]
      by_cases hg : q ∈ gone
      · rw [if_pos hg, if_pos (List.mem_append_left _ hg)]
      · rw [if_neg hg, if_neg (by simp [hg, hqp])]
  · show l ++ [outOne p] = _
    have h9 : l = l0 ++ gone.map outOne := k.evs
    rw [h9]
    simp
def goneB (s : St) (p : Int) : Bool := !(plAt s p).out && decide ((plAt s p).life ≤ 0)
def goneL (s : St) : List Int := (ringL s).filter (goneB s)
theorem drops {s u : St} (h : May s) (hu : u.players = s.players) {l0 : List Ev} : ∀ (ps : List Int) {a : St × List Ev} {gone : List Int}, DropI s u a.1 l0 a.2 gone → (∀ p ∈ ps, Within p s.players.length) → (gone ++ ps).Nodup → DropI s u (ps.foldl (dropE s) a).1 l0 (ps.foldl (dropE s) a).2 (gone ++ ps.filter (goneB s))
  | [], a, gone, k, _, _ => by simpa using k
  | p :: ps, a, gone, k, hb, hn => by
    have hd : p ∉ gone := fun hd => (List.nodup_append.1 hn).2.2 p hd p (by simp) rfl
    have hpu : plAt u p = plAt s p := by unfold plAt; rw [hu]
    have hnn : (gone ++ ps).Nodup := by
      rw [List.nodup_append] at hn ⊢
      exact ⟨hn.1, (List.nodup_cons.1 hn.2.1).2, fun c hc d hd2 => hn.2.2 c hc d (List.mem_cons_of_mem _ hd2)⟩
    rw [List.foldl_cons]
    by_cases hg : goneB s p = true
    · have hg2 := hg
      simp only [goneB, Bool.and_eq_true, Bool.not_eq_true', decide_eq_true_eq] at hg2
      obtain ⟨h1, h2⟩ := hg2
      have e1 : dropE s a p = doEs a (outEv a.1 p) := by
        unfold dropE
        rw [h1, if_neg (by decide), if_pos h2]
      rw [e1, List.filter_cons_of_pos hg]
      have := drops h hu ps (drop_step h k (by rw [hu]; exact hb p (by simp)) hd (by rw [hpu]; exact h1)) (fun q hq => hb q (List.mem_cons_of_mem _ hq)) (by rw [List.append_assoc]; exact hn)
      rw [List.append_assoc] at this
      exact this
    · have e1 : dropE s a p = a := by
        unfold dropE
        by_cases h1 : (plAt s p).out = true
        · rw [if_pos h1]
        · rw [if_neg h1, if_neg]
          intro h2
          apply hg
          unfold goneB
          simp [h1, h2]
      rw [e1, List.filter_cons_of_neg hg]
      exact drops h hu ps k (fun q hq => hb q (List.mem_cons_of_mem _ hq)) hnn
theorem dropped {s : St} (h : May s) : DropI s ((deadL s).foldl (killE s) (s, [])).1 ((ringL s).foldl (dropE s) ((deadL s).foldl (killE s) (s, []))).1 ((deadL s).foldl (killE s) (s, [])).2 ((ringL s).foldl (dropE s) ((deadL s).foldl (killE s) (s, []))).2 (goneL s) := by
  have hk := killed h
  have hu : ((deadL s).foldl (killE s) (s, [])).1.players = s.players := by rw [hk.same]
  have := drops h hu (l0 := ((deadL s).foldl (killE s) (s, [])).2) (ringL s) (DropI.start hk.run) (fun p hp => (ring_mem h).1 hp) (by simpa using ring_nodup h)
  simpa [goneL] using this
/-! ### All that is due -/
/-- The state behind all moves; the state behind all that go out. -/
def killS (s : St) : St × List Ev := (deadL s).foldl (killE s) (s, [])
def dropS (s : St) : St × List Ev := (ringL s).foldl (dropE s) (killS s)
theorem dueP_end {s : St} (h : s.fin ≠ 0) : dueP s = (s, []) := by unfold dueP; rw [if_pos h]
theorem dueP_on {s : St} (h : s.fin = 0) : dueP s = if (inL s).length < 2 then doEs (dropS s) [endOf (inL s)] else dropS s := by
  unfold dueP
  rw [if_neg (by simpa using h)]
  rfl
theorem in_mem {s : St} (h : May s) {p : Int} : p ∈ inL s ↔ Within p s.players.length ∧ (plAt s p).out = false ∧ 0 < (plAt s p).life := by
  unfold inL
  rw [List.mem_filter, ring_mem h]
  simp [inB]
theorem gone_mem {s : St} (h : May s) {p : Int} : p ∈ goneL s ↔ Within p s.players.length ∧ (plAt s p).out = false ∧ (plAt s p).life ≤ 0 := by
  unfold goneL
  rw [List.mem_filter, ring_mem h]
  simp [goneB]
/-- The end, where there is one. -/
def finOf (l : List Int) : Int × Int := match l.getLast? with
  | none => (2, 0)
  | some p => (1, p)
theorem end_step {s : St} (h : May s) (h0 : s.fin = 0) (hl : (inL s).length < 2) : ∃ t, stepE (dropS s).1 (endOf (inL s)) false = some t ∧ t = { (dropS s).1 with fin := (finOf (inL s)).1, winner := (finOf (inL s)).2 } := by
  have hk : KillI s (killS s).1 (killS s).2 (deadL s) := killed h
  have hd : DropI s (killS s).1 (dropS s).1 (killS s).2 (dropS s).2 (goneL s) := dropped h
  have hf : (dropS s).1.fin = 0 := by
    have e1 : (dropS s).1.fin = (killS s).1.fin := hd.keep.2.2.2.2.1
    have e2 : (killS s).1.fin = s.fin := hk.keep.2.2.2.2.1
    rw [e1, e2, h0]
  have hn : (dropS s).1.players.length = s.players.length := by
    have e2 : (killS s).1.players = s.players := hk.keep.1
    rw [hd.len, e2]
  unfold endOf finOf
  cases hg : (inL s).getLast? with
  | none =>
    refine ⟨_, step_fits (plain_of (by simp) (by simp [keepE, zeroEv])) ?_, rfl⟩
    show (if _ then _ else _ : Option St) = _
    simp only [doE, zeroEv, endS]
    simp [hf]
  | some p =>
    have hp : p ∈ inL s := List.mem_of_getLast? hg
    have hw := ((in_mem h).1 hp).1
    refine ⟨_, step_fits (plain_of (by simp) (by simp [keepE, zeroEv])) ?_, rfl⟩
    simp only [doE, zeroEv, endS]
    simp [hf, hn, hw]
/-- What is due leads to the state that is answered. -/
theorem due_run {s : St} (h : May s) : runE s (dueP s).2 = some (dueP s).1 := by
  by_cases h0 : s.fin = 0
  · rw [dueP_on h0]
    split
    · rename_i hl
      obtain ⟨t, ht, _⟩ := end_step h h0 hl
      rw [doEs_one ht]
      exact run_one (dropped h).run ht
    · exact (dropped h).run
  · rw [dueP_end h0]
    rfl
theorem due_may {s : St} (h : May s) : May (dueP s).1 := (run_back h (due_run h)).2.1
/-- What the state behind it all looks like, but for its end. -/
structure DueI (s t : St) : Prop where
  cards : t.cards = s.cards
  turn : t.turn = s.turn
  whose : t.whose = s.whose
  plen : t.players.length = s.players.length
  zlen : t.zones.length = s.zones.length
  board : ∀ z, z % 4 = 2 → t.zones.getD z [] = (s.zones.getD z []).filter fun c => decide (c ∉ deadL s)
  grave : ∀ z, z % 4 = 3 → z < s.zones.length → t.zones.getD z [] = s.zones.getD z [] ++ (deadL s).filter fun c => decide (graveOf s c = (z : Int))
  other : ∀ z, z % 4 ≠ 2 → z % 4 ≠ 3 → t.zones.getD z [] = s.zones.getD z []
  pl : ∀ p : Int, 0 ≤ p → plAt t p = if p ∈ goneL s then { plAt s p with out := true } else plAt s p
theorem drop_due {s : St} (h : May s) : DueI s (dropS s).1 := by
  have hk : KillI s (killS s).1 (killS s).2 (deadL s) := killed h
  have hd : DropI s (killS s).1 (dropS s).1 (killS s).2 (dropS s).2 (goneL s) := dropped h
  have ez : (dropS s).1.zones = (killS s).1.zones := hd.keep.1
  have ep : (killS s).1.players = s.players := hk.keep.1
  have epl : ∀ p, plAt (killS s).1 p = plAt s p := fun p => by unfold plAt; rw [ep]
  exact ⟨(hd.keep.2.1).trans (hk.keep.2.1), (hd.keep.2.2.1).trans (hk.keep.2.2.1), (hd.keep.2.2.2.1).trans (hk.keep.2.2.2.1), by rw [hd.len, ep], by rw [ez]; exact hk.len,
    fun z hz => by rw [ez]; exact hk.board z hz, fun z hz hl => by rw [ez]; exact hk.grave z hz hl, fun z h2 h3 => by rw [ez]; exact hk.other z h2 h3, fun p hp => by rw [hd.pl p hp, epl]⟩
theorem due_due {s : St} (h : May s) (h0 : s.fin = 0) : DueI s (dueP s).1 := by
  have hd := drop_due h
  rw [dueP_on h0]
  split
  · rename_i hl
    obtain ⟨t, ht, e⟩ := end_step h h0 hl
    rw [doEs_one ht, e]
    exact ⟨hd.cards, hd.turn, hd.whose, hd.plen, hd.zlen, hd.board, hd.grave, hd.other, hd.pl⟩
  · exact hd
theorem due_fin {s : St} (h : May s) (h0 : s.fin = 0) : (dueP s).1.fin = 0 ↔ ¬ (inL s).length < 2 := by
  rw [dueP_on h0]
  have hk : KillI s (killS s).1 (killS s).2 (deadL s) := killed h
  have hd : DropI s (killS s).1 (dropS s).1 (killS s).2 (dropS s).2 (goneL s) := dropped h
  by_cases hl : (inL s).length < 2
  · obtain ⟨t, ht, e⟩ := end_step h h0 hl
    rw [if_pos hl, doEs_one ht, e]
    constructor
    · intro hf
      have : (finOf (inL s)).1 = 0 := hf
      unfold finOf at this
      split at this <;> cases this
    · intro hf
      exact absurd hl hf
  · rw [if_neg hl]
    constructor
    · exact fun _ => hl
    · intro _
      rw [hd.keep.2.2.2.2.1]
      exact (hk.keep.2.2.2.2.1).trans h0
/-- Is nothing due? -/
def Quiet (s : St) : Prop := s.fin ≠ 0 ∨ (deadL s = [] ∧ goneL s = [] ∧ ¬ (inL s).length < 2)
theorem quiet_due {s : St} (h : Quiet s) : dueP s = (s, []) := by
  by_cases h0 : s.fin = 0
  · rcases h with h | ⟨h1, h2, h3⟩
    · exact absurd h0 h
    · rw [dueP_on h0, if_neg h3]
      have e1 : killS s = (s, []) := by unfold killS; rw [h1]; rfl
      have key : ∀ (ps : List Int) (a : St × List Ev), (∀ p ∈ ps, p ∈ ringL s) → ps.foldl (dropE s) a = a := by
        intro ps
        induction ps with
        | nil => intro a _; rfl
        | cons p ps ih =>
          intro a hp
          rw [List.foldl_cons]
          have hg : ¬ p ∈ goneL s := by rw [h2]; simp
          have : dropE s a p = a := by
            unfold dropE
            by_cases ho : (plAt s p).out = true
            · rw [if_pos ho]
            · rw [if_neg ho, if_neg]
              intro hl
              exact hg (List.mem_filter.2 ⟨hp p (by simp), by simp [goneB, ho, hl]⟩)
          rw [this]
          exact ih a fun q hq => hp q (List.mem_cons_of_mem _ hq)
      unfold dropS
      rw [e1]
      exact key _ _ fun p hp => hp
  · exact dueP_end h0
/-- THE THEOREM OF THE STAGE, in plain Lean: behind what is due nothing is due. -/
theorem due_quiet {s : St} (h : May s) : Quiet (dueP s).1 := by
  by_cases h0 : s.fin = 0
  · by_cases hl : (inL s).length < 2
    · exact .inl fun e => (due_fin h h0).1 e hl
    · have hd := due_due h h0
      have hm := due_may h
      obtain ⟨t, ht⟩ : ∃ t, t = (dueP s).1 := ⟨_, rfl⟩
      rw [← ht] at hd hm ⊢
      have hcd : ∀ c, cdAt t c = cdAt s c := fun c => by unfold cdAt; rw [hd.cards]
      have hring : ringL t = ringL s := by unfold ringL; rw [hd.plen, hd.whose]
      refine .inr ⟨?_, ?_, ?_⟩
      · rw [List.eq_nil_iff_forall_not_mem]
        intro c hc
        obtain ⟨z, hz, hz4, hcz⟩ := dead_on hm hc
        have hsp : spentB s c = true := by have := dead_spent hm hc; unfold spentB at this ⊢; rw [hcd] at this; exact this
        rw [hd.board z hz4] at hcz
        obtain ⟨h1, h2⟩ := List.mem_filter.1 hcz
        exact (of_decide_eq_true h2) (dead_mem h (by rw [← hd.zlen]; exact hz) hz4 h1 hsp)
      · rw [List.eq_nil_iff_forall_not_mem]
        intro p hp
        obtain ⟨h1, h2, h3⟩ := (gone_mem hm).1 hp
        rw [hd.pl p h1.1] at h2 h3
        by_cases hg : p ∈ goneL s
        · rw [if_pos hg] at h2
          cases h2
        · rw [if_neg hg] at h2 h3
          exact hg ((gone_mem h).2 ⟨by rw [← hd.plen]; exact h1, h2, h3⟩)
      · have : inL t = inL s := by
          unfold inL
          rw [hring]
          refine List.filter_congr fun p hp => ?_
          have hw := (ring_mem h).1 hp
          unfold inB
          rw [hd.pl p hw.1]
          by_cases hg : p ∈ goneL s
          · have := ((gone_mem h).1 hg).2.2
            rw [if_pos hg]
            simp
            omega
          · rw [if_neg hg]
        rw [this]
        exact hl
  · rw [dueP_end h0]
    exact .inl h0
theorem due_again {s : St} (h : May s) : dueP (dueP s).1 = ((dueP s).1, []) := quiet_due (due_quiet h)
/-! ### The list of events -/
/-- The events of a state in which the game goes on: moves, then those that go out, then the end. -/
structure DueL (s : St) (l : List Ev) : Prop where
  ex : ∃ K F : List Ev, l = K ++ (goneL s).map outOne ++ F ∧ K.map (·.card) = deadL s ∧ (∀ e ∈ K, e.kind = 1 ∧ e.src % 4 = 2 ∧ e.dst = graveOf s e.card ∧ e.order = []) ∧ F = if (inL s).length < 2 then [endOf (inL s)] else []
theorem due_list {s : St} (h : May s) (h0 : s.fin = 0) : DueL s (dueP s).2 := by
  have hk : KillI s (killS s).1 (killS s).2 (deadL s) := killed h
  have hd : DropI s (killS s).1 (dropS s).1 (killS s).2 (dropS s).2 (goneL s) := dropped h
  rw [dueP_on h0]
  by_cases hl : (inL s).length < 2
  · obtain ⟨t, ht, e⟩ := end_step h h0 hl
    rw [if_pos hl, doEs_one ht]
    exact ⟨(killS s).2, [endOf (inL s)], by rw [hd.evs], hk.evs.1, hk.evs.2, by rw [if_pos hl]⟩
  · rw [if_neg hl]
    exact ⟨(killS s).2, [], by rw [hd.evs, List.append_nil], hk.evs.1, hk.evs.2, by rw [if_neg hl]⟩
/-- Nothing is due where there are no events, and nowhere else. -/
theorem quiet_iff {s : St} (h : May s) : Quiet s ↔ (dueP s).2 = [] := by
  constructor
  · intro hq
    rw [quiet_due hq]
  · intro hl
    by_cases h0 : s.fin = 0
    · obtain ⟨K, F, e1, e2, _, e4⟩ := (due_list h h0).ex
      rw [hl] at e1
      have e5 := e1.symm
      rw [List.append_eq_nil_iff, List.append_eq_nil_iff] at e5
      obtain ⟨⟨k1, k2⟩, k3⟩ := e5
      refine .inr ⟨?_, ?_, ?_⟩
      · rw [← e2, k1]
        rfl
      · exact List.map_eq_nil_iff.1 k2
      · intro hlt
        rw [if_pos hlt] at e4
        rw [e4] at k3
        cases k3
    · exact .inl h0
theorem outOne_order (p : Int) : (outOne p).order = [] := rfl
theorem endOf_order (l : List Int) : (endOf l).order = [] := by unfold endOf; split <;> rfl
/-- No event of the list has an order. -/
theorem due_orders {s : St} (h : May s) : ∀ e ∈ (dueP s).2, e.order = [] := by
  by_cases h0 : s.fin = 0
  · obtain ⟨K, F, e1, e2, e3, e4⟩ := (due_list h h0).ex
    rw [e1]
    intro e he
    rcases List.mem_append.1 he with h1 | h1
    · rcases List.mem_append.1 h1 with h2 | h2
      · exact (e3 e h2).2.2.2
      · obtain ⟨p, _, rfl⟩ := List.mem_map.1 h2
        rfl
    · rw [e4] at h1
      split at h1
      · obtain rfl := List.mem_singleton.1 h1
        exact endOf_order _
      · cases h1
  · rw [dueP_end h0]
    intro e he
    cases he
/-! ### The count of those that are in, by the players' numbers -/
theorem ring_split {s : St} (h : May s) : ringL s = (List.range (s.players.length - s.whose.toNat)).map (fun i : Nat => s.whose + (i : Int)) ++ (List.range s.whose.toNat).map (fun i : Nat => (i : Int)) := by
  obtain ⟨w0, w1⟩ := h.whose
  unfold ringL
  have e : s.players.length = (s.players.length - s.whose.toNat) + s.whose.toNat := by omega
  have hr : List.range s.players.length = List.range (s.players.length - s.whose.toNat) ++ (List.range s.whose.toNat).map (fun i => (s.players.length - s.whose.toNat) + i) := by
    have := List.range_add (n := s.players.length - s.whose.toNat) (m := s.whose.toNat)
    rw [← e] at this
    exact this
  rw [hr, List.map_append, List.map_map]
  congr 1
  · refine List.map_congr_left fun i hi => ?_
    have := List.mem_range.1 hi
    exact Int.emod_eq_of_lt (by omega) (by omega)
  · refine List.map_congr_left fun i hi => ?_
    have := List.mem_range.1 hi
    show (s.whose + ((s.players.length - s.whose.toNat + i : Nat) : Int)) % _ = _
    rw [show s.whose + ((s.players.length - s.whose.toNat + i : Nat) : Int) = (i : Int) + s.players.length by omega, Int.add_emod_right]
    exact Int.emod_eq_of_lt (by omega) (by omega)
theorem ring_count {s : St} (h : May s) (f : Int → Bool) : ((ringL s).filter f).length = (((List.range s.players.length).map (fun i : Nat => (i : Int))).filter f).length := by
  obtain ⟨w0, w1⟩ := h.whose
  have e : s.players.length = s.whose.toNat + (s.players.length - s.whose.toNat) := by omega
  have hr : List.range s.players.length = List.range s.whose.toNat ++ (List.range (s.players.length - s.whose.toNat)).map (fun i => s.whose.toNat + i) := by
    have := List.range_add (n := s.whose.toNat) (m := s.players.length - s.whose.toNat)
    rw [← e] at this
    exact this
  rw [ring_split h, hr, List.map_append, List.map_map, List.filter_append, List.filter_append, List.length_append, List.length_append, Nat.add_comm]
  congr 3
  refine List.map_congr_left fun i hi => ?_
  show s.whose + (i : Int) = ((s.whose.toNat + i : Nat) : Int)
  omega
/-! ### Where the cards are -/
/-- A list's part that is on another list, or is not. -/
def restL (l m : List Int) (on : Bool) : List Int := l.filter fun c => decide (c ∈ m) == on
theorem grave_left {s : St} (h : May s) {z : Nat} (hz : z < s.zones.length) (hz4 : z % 4 ≠ 2) : restL (s.zones.getD z []) (deadL s) false = s.zones.getD z [] := by
  refine List.filter_eq_self.2 fun c hc => ?_
  have : c ∉ deadL s := fun hd => by
    obtain ⟨y, hy, hy4, hcy⟩ := dead_on h hd
    have := zone_one h.nd hz hy hc hcy
    omega
  simp [this]
theorem extra_rest (s : St) (z : Int) : restL ((deadL s).filter fun c => decide (graveOf s c = z)) (deadL s) false = [] := by
  refine List.filter_eq_nil_iff.2 fun c hc => ?_
  have := (List.mem_filter.1 hc).1
  simp [this]
theorem extra_same (s : St) (z : Int) : restL (deadL s) ((deadL s).filter fun c => decide (graveOf s c = z)) true = (deadL s).filter fun c => decide (graveOf s c = z) := by
  refine List.filter_congr fun c hc => ?_
  by_cases hg : graveOf s c = z <;> simp [hg, hc]
/-! ### Is a state quiet? As the law asks it -/
def okAt (s : St) (p : Nat) : Bool := !goneB s p && (zone s (4 * (p : Int) + 2)).all fun c => !spentB s c
def quietB (s : St) : Bool := decide (s.fin ≠ 0) || ((List.range s.players.length).all (okAt s) && decide (1 < ((List.range s.players.length).filter fun p : Nat => !(plAt s p).out).length))
theorem ok_all {s : St} (h : May s) : (List.range s.players.length).all (okAt s) = true ↔ deadL s = [] ∧ goneL s = [] := by
  rw [List.all_eq_true]
  constructor
  · intro ha
    have key : ∀ p : Int, p ∈ ringL s → okAt s p.toNat = true ∧ ((p.toNat : Nat) : Int) = p := fun p hp => by
      have hw := (ring_mem h).1 hp
      exact ⟨ha _ (List.mem_range.2 (by have := hw.1; have := hw.2; omega)), Int.toNat_of_nonneg hw.1⟩
    constructor
    · rw [List.eq_nil_iff_forall_not_mem]
      intro c hc
      obtain ⟨p, hp, hcp⟩ := List.mem_flatMap.1 hc
      obtain ⟨h1, h2⟩ := key p hp
      unfold okAt at h1
      rw [h2, Bool.and_eq_true, List.all_eq_true] at h1
      obtain ⟨h3, h4⟩ := List.mem_filter.1 hcp
      have := h1.2 c h3
      rw [h4] at this
      cases this
    · rw [List.eq_nil_iff_forall_not_mem]
      intro p hp
      obtain ⟨h3, h4⟩ := List.mem_filter.1 hp
      obtain ⟨h1, h2⟩ := key p h3
      unfold okAt at h1
      rw [h2, Bool.and_eq_true, h4] at h1
      cases h1.1
  · rintro ⟨h1, h2⟩ p hp
    have hpn := List.mem_range.1 hp
    have hr : (p : Int) ∈ ringL s := (ring_mem h).2 ⟨by omega, by omega⟩
    unfold okAt
    rw [Bool.and_eq_true, List.all_eq_true]
    constructor
    · cases hg : goneB s p with
      | false => rfl
      | true =>
        have : (p : Int) ∈ goneL s := List.mem_filter.2 ⟨hr, hg⟩
        rw [h2] at this
        cases this
    · intro c hc
      cases hs : spentB s c with
      | false => rfl
      | true =>
        have : c ∈ deadL s := List.mem_flatMap.2 ⟨_, hr, List.mem_filter.2 ⟨hc, hs⟩⟩
        rw [h1] at this
        cases this
theorem quietB_iff {s : St} (h : May s) : quietB s = true ↔ Quiet s := by
  unfold quietB Quiet
  rw [Bool.or_eq_true, decide_eq_true_eq, Bool.and_eq_true, ok_all h, decide_eq_true_eq]
  constructor
  · rintro (h1 | ⟨⟨h1, h2⟩, h3⟩)
    · exact .inl h1
    · refine .inr ⟨h1, h2, ?_⟩
      unfold inL
      rw [ring_count h, List.filter_map, List.length_map]
      have : (List.range s.players.length).filter (inB s ∘ fun i : Nat => (i : Int)) = (List.range s.players.length).filter fun p : Nat => !(plAt s p).out := by
        refine List.filter_congr fun p hp => ?_
        have hpn := List.mem_range.1 hp
        show inB s p = _
        unfold inB
        cases ho : (plAt s p).out with
        | true => rfl
        | false =>
          have : ¬ (plAt s p).life ≤ 0 := fun hl => by
            have : (p : Int) ∈ goneL s := (gone_mem h).2 ⟨⟨by omega, by omega⟩, ho, hl⟩
            rw [h2] at this
            cases this
          simp
          omega
      rw [this]
      omega
  · rintro (h1 | ⟨h1, h2, h3⟩)
    · exact .inl h1
    · refine .inr ⟨⟨h1, h2⟩, ?_⟩
      unfold inL at h3
      rw [ring_count h, List.filter_map, List.length_map] at h3
      have : (List.range s.players.length).filter (inB s ∘ fun i : Nat => (i : Int)) = (List.range s.players.length).filter fun p : Nat => !(plAt s p).out := by
        refine List.filter_congr fun p hp => ?_
        have hpn := List.mem_range.1 hp
        show inB s p = _
        unfold inB
        cases ho : (plAt s p).out with
        | true => rfl
        | false =>
          have : ¬ (plAt s p).life ≤ 0 := fun hl => by
            have : (p : Int) ∈ goneL s := (gone_mem h).2 ⟨⟨by omega, by omega⟩, ho, hl⟩
            rw [h2] at this
            cases this
          simp
          omega
      rw [this] at h3
      omega
/-! ### As the document says it -/
/-- A card that is due is moved by one event, whose numbers are read from the state at that time. -/
theorem kill_ev {s t : St} {l : List Ev} {done : List Int} {c : Int} {z : Nat} (h : May s) (k : KillI s t l done) (hz : z < s.zones.length) (hz4 : z % 4 = 2) (hc : c ∈ s.zones.getD z []) (hd : c ∉ done) :
    moveEv t c (graveOf s c) false = [{ zeroEv with kind := 1, card := c, src := zoneOf t.zones c, srcAt := atOf t.zones c, dst := graveOf s c, dstAt := (zone t (graveOf s c)).length }] := by
  have hm : May t := (run_back h k.run).2.1
  have hct : c ∈ t.zones.getD z [] := by rw [k.board z hz4]; exact List.mem_filter.2 ⟨hc, by simpa using hd⟩
  have hzt : z < t.zones.length := by rw [k.len]; exact hz
  obtain ⟨e1, hw⟩ := zoneOf_eq hm hzt hct
  obtain ⟨g, hg, hgl, hg4⟩ := grave_ok h (zoneOf_eq h hz hc).2
  have hne : ¬ ((zoneOf t.zones c : Nat) : Int) = graveOf s c := by rw [e1, hg]; omega
  unfold moveEv
  simp only [hne, false_and, if_false, Bool.false_eq_true]
/-- The players that are left, by their numbers. -/
def leftL (t : St) : List Nat := (List.range t.players.length).filter fun p : Nat => !(plAt t p).out
theorem left_eq {s : St} (h : May s) : leftL (dropS s).1 = (List.range s.players.length).filter (inB s ∘ fun i : Nat => (i : Int)) := by
  have hd := drop_due h
  unfold leftL
  rw [hd.plen]
  refine List.filter_congr fun p hp => ?_
  have hpn := List.mem_range.1 hp
  show _ = inB s p
  rw [hd.pl p (by omega)]
  unfold inB
  have hw : Within (p : Int) s.players.length := ⟨by omega, by omega⟩
  by_cases hg : (p : Int) ∈ goneL s
  · have := ((gone_mem h).1 hg).2.2
    rw [if_pos hg]
    simp
    omega
  · rw [if_neg hg]
    cases ho : (plAt s p).out with
    | true => rfl
    | false =>
      have : ¬ (plAt s p).life ≤ 0 := fun hl => hg ((gone_mem h).2 ⟨hw, ho, hl⟩)
      simp
      omega
theorem left_count {s : St} (h : May s) : (leftL (dropS s).1).length = (inL s).length := by
  unfold inL
  rw [left_eq h, ring_count h, List.filter_map, List.length_map]
theorem left_last {s : St} (h : May s) (h1 : (inL s).length = 1) : ∃ p : Nat, leftL (dropS s).1 = [p] ∧ inL s = [(p : Int)] := by
  obtain ⟨a, ha⟩ := List.length_eq_one_iff.1 h1
  obtain ⟨p, hp⟩ := List.length_eq_one_iff.1 ((left_count h).trans h1)
  refine ⟨p, hp, ?_⟩
  have hm : p ∈ leftL (dropS s).1 := by rw [hp]; exact List.mem_singleton.2 rfl
  rw [left_eq h] at hm
  obtain ⟨m1, m2⟩ := List.mem_filter.1 hm
  have hpn := List.mem_range.1 m1
  have : (p : Int) ∈ inL s := List.mem_filter.2 ⟨(ring_mem h).2 ⟨by omega, by omega⟩, m2⟩
  rw [ha] at this ⊢
  rw [List.mem_singleton.1 this]
/-- The end as the document says it. -/
theorem end_ref {s : St} (h : May s) : (if (inL s).length < 2 then [endOf (inL s)] else []) = (match leftL (dropS s).1 with
    | [] => [{ zeroEv with kind := 7, now := 2 }]
    | [p] => [{ zeroEv with kind := 7, now := 1, player := (p : Int) }]
    | _ => ([] : List Ev)) := by
  have hc := left_count h
  match hl : leftL (dropS s).1 with
  | [] =>
    rw [hl] at hc
    have : inL s = [] := List.eq_nil_of_length_eq_zero hc.symm
    rw [this]
    rfl
  | [p] =>
    rw [hl] at hc
    obtain ⟨q, e1, e2⟩ := left_last h hc.symm
    rw [hl] at e1
    obtain rfl : p = q := by simpa using e1
    rw [e2]
    rfl
  | p :: q :: r =>
    rw [hl] at hc
    rw [if_neg]
    intro h2
    rw [← hc] at h2
    simp at h2
    omega
/-! ### The law's own state: a card dies, a player is out, the other one has won -/
def worksS : St := { players := [⟨0, 0, false⟩, ⟨5, 0, false⟩], cards := [⟨0, 0, 0, 1, 1, 0⟩], zones := [[], [], [0], [], [], [], [], []], turn := 1, whose := 0, fin := 0, winner := 0 }
theorem works_may : May worksS := ⟨by decide, by decide, by decide, by decide, by decide, by decide, by decide, by decide, by decide, by decide, by decide, by decide, by decide, by decide, by decide⟩
theorem works_due : dueP worksS = ({ worksS with players := [⟨0, 0, true⟩, ⟨5, 0, false⟩], zones := [[], [], [], [0], [], [], [], []], fin := 1, winner := 1 }, [{ zeroEv with kind := 1, card := 0, src := 2, srcAt := 0, dst := 3, dstAt := 0 }, { zeroEv with kind := 5, player := 0 }, { zeroEv with kind := 7, now := 1, player := 1 }]) := by decide
/-! ### The list of events by its places -/
theorem dead_within {s : St} (h : May s) {c : Int} (hc : c ∈ deadL s) : Within c s.cards.length := by
  obtain ⟨z, hz, _, hcz⟩ := dead_on h hc
  exact (zoneOf_eq h hz hcz).2
/-- Which event stands where. -/
structure DueAt (s : St) (l : List Ev) (a b : Nat) : Prop where
  ab : a ≤ b
  bl : b ≤ l.length
  mv : ∀ i, i < a → (l.getD i zeroEv).kind = 1 ∧ Within (l.getD i zeroEv).card s.cards.length ∧ spentB s (l.getD i zeroEv).card = true ∧ (l.getD i zeroEv).src % 4 = 2 ∧ (l.getD i zeroEv).dst = graveOf s (l.getD i zeroEv).card
  out : ∀ i, a ≤ i → i < b → (l.getD i zeroEv).kind = 5
  fin : ∀ i, b ≤ i → i < l.length → (l.getD i zeroEv).kind = 7
  dead : (l.take a).map (·.card) = deadL s
theorem endOf_kind (l : List Int) : (endOf l).kind = 7 := by unfold endOf; split <;> rfl
theorem due_at {s : St} (h : May s) (h0 : s.fin = 0) : ∃ a b, DueAt s (dueP s).2 a b := by
  obtain ⟨K, F, e1, e2, e3, e4⟩ := (due_list h h0).ex
  rw [e1]
  have hg : ∀ i, i < K.length → (K ++ (goneL s).map outOne ++ F).getD i zeroEv = K.getD i zeroEv := fun i hi => by
    rw [List.getD_eq_getElem?_getD, List.getD_eq_getElem?_getD, List.append_assoc, List.getElem?_append_left hi]
  refine ⟨K.length, K.length + (goneL s).length, by omega, by simp, ?_, ?_, ?_, ?_⟩
  · intro i hi
    rw [hg i hi]
    have hm := mem_getD (d := zeroEv) hi
    obtain ⟨a1, a2, a3, _⟩ := e3 _ hm
    have hd : (K.getD i zeroEv).card ∈ deadL s := by rw [← e2]; exact List.mem_map.2 ⟨_, hm, rfl⟩
    exact ⟨a1, dead_within h hd, dead_spent h hd, a2, a3⟩
  · intro i h1 h2
    rw [List.getD_eq_getElem?_getD, List.append_assoc, List.getElem?_append_right h1, List.getElem?_append_left (by simp; omega), List.getElem?_map, List.getElem?_eq_getElem (by omega)]
    rfl
  · intro i h1 h2
    rw [List.getD_eq_getElem?_getD, List.getElem?_append_right (by simp; omega)]
    have hF : i - (K ++ (goneL s).map outOne).length < F.length := by simp at h2 ⊢; omega
    rw [List.getElem?_eq_getElem hF]
    have hall : ∀ e ∈ F, e.kind = 7 := fun e he => by
      rw [e4] at he
      split at he
      · rw [List.mem_singleton.1 he]
        exact endOf_kind _
      · cases he
    exact hall _ (List.getElem_mem hF)
  · rw [List.append_assoc, List.take_left]
    exact e2
theorem due_at_end {s : St} (h : s.fin ≠ 0) : (dueP s).2 = [] ∧ (dueP s).1 = s := by
  rw [dueP_end h]
  exact ⟨rfl, rfl⟩
/-- What has become of a zone, as the law asks it: D are the cards that were moved. -/
structure ZoneI (s t : St) (D : List Int) (z : Nat) (X : List Int) : Prop where
  eq : t.zones.getD z [] = restL (s.zones.getD z []) D false ++ X
  left : z % 4 ≠ 2 → restL (s.zones.getD z []) D false = s.zones.getD z []
  none : z % 4 ≠ 3 → X = []
  gone : restL X D false = []
  mine : X = restL D X true
def movedL (s : St) : List Int := if s.fin = 0 then deadL s else []
theorem rest_nil (l : List Int) : restL l [] false = l := List.filter_eq_self.2 fun c _ => by simp
theorem rest_none (D : List Int) : restL D [] true = [] := List.filter_eq_nil_iff.2 fun c _ => by simp
theorem zone_due {s : St} (h : May s) {z : Nat} (hz : z < s.zones.length) : ∃ X, ZoneI s (dueP s).1 (movedL s) z X := by
  unfold movedL
  by_cases h0 : s.fin = 0
  · rw [if_pos h0]
    have hd := due_due h h0
    by_cases h3 : z % 4 = 3
    · exact ⟨(deadL s).filter fun c => decide (graveOf s c = (z : Int)), by rw [hd.grave z h3 hz, grave_left h hz (by omega)], fun _ => grave_left h hz (by omega), fun hh => absurd h3 hh, extra_rest s z, (extra_same s z).symm⟩
    · refine ⟨[], ?_, fun h2 => grave_left h hz h2, fun _ => rfl, rfl, (rest_none _).symm⟩
      rw [List.append_nil]
      by_cases h2 : z % 4 = 2
      · rw [hd.board z h2]
        exact List.filter_congr fun c _ => by by_cases hc : c ∈ deadL s <;> simp [hc]
      · rw [hd.other z h2 h3, grave_left h hz h2]
  · rw [if_neg h0, (due_at_end h0).2]
    exact ⟨[], by rw [rest_nil, List.append_nil], fun _ => rest_nil _, fun _ => rfl, rfl, rfl⟩
/-- What has become of a player, as the law asks it. -/
theorem player_due {s : St} (h : May s) (p : Int) (hp : 0 ≤ p) : (plAt (dueP s).1 p).life = (plAt s p).life ∧ (plAt (dueP s).1 p).energy = (plAt s p).energy ∧ ((plAt s p).out = true → (plAt (dueP s).1 p).out = true) ∧ ((plAt (dueP s).1 p).out = true → (plAt s p).out = true ∨ (plAt s p).life ≤ 0) := by
  by_cases h0 : s.fin = 0
  · have hd := due_due h h0
    rw [hd.pl p hp]
    by_cases hg : p ∈ goneL s
    · rw [if_pos hg]
      exact ⟨rfl, rfl, fun _ => rfl, fun _ => .inr ((gone_mem h).1 hg).2.2⟩
    · rw [if_neg hg]
      exact ⟨rfl, rfl, fun hh => hh, fun hh => .inl hh⟩
  · rw [(due_at_end h0).2]
    exact ⟨rfl, rfl, fun hh => hh, fun hh => .inl hh⟩
/-- What stays as it is. -/
theorem same_due {s : St} (h : May s) : (dueP s).1.cards = s.cards ∧ (dueP s).1.turn = s.turn ∧ (dueP s).1.whose = s.whose ∧ (dueP s).1.players.length = s.players.length ∧ (dueP s).1.zones.length = s.zones.length := by
  by_cases h0 : s.fin = 0
  · have hd := due_due h h0
    exact ⟨hd.cards, hd.turn, hd.whose, hd.plen, hd.zlen⟩
  · rw [(due_at_end h0).2]
    exact ⟨rfl, rfl, rfl, rfl, rfl⟩
/-! ### Half way -/
theorem kill_pre {s : St} (h : May s) {L M : List Int} (e : deadL s = L ++ M) : KillI s (L.foldl (killE s) (s, [])).1 (L.foldl (killE s) (s, [])).2 L := by
  have hn := dead_nodup h
  rw [e] at hn
  have := kills h L (a := (s, [])) (done := []) (KillI.start s) (fun c hc => dead_on h (by rw [e]; exact List.mem_append_left _ hc)) (by simpa using (List.nodup_append.1 hn).1)
  simpa using this
theorem drop_pre {s : St} (h : May s) {ps qs : List Int} (e : ringL s = ps ++ qs) : DropI s (killS s).1 (ps.foldl (dropE s) (killS s)).1 (killS s).2 (ps.foldl (dropE s) (killS s)).2 (ps.filter (goneB s)) := by
  have hk : KillI s (killS s).1 (killS s).2 (deadL s) := killed h
  have hn := ring_nodup h
  rw [e] at hn
  have := drops h hk.keep.1 (l0 := (killS s).2) ps (a := killS s) (gone := []) (DropI.start hk.run) (fun p hp => (ring_mem h).1 (by rw [e]; exact List.mem_append_left _ hp)) (by simpa using (List.nodup_append.1 hn).1)
  simpa using this
/-- One card further, one player further. -/
theorem kill_next (s : St) (L : List Int) (c : Int) : (L ++ [c]).foldl (killE s) (s, []) = killE s (L.foldl (killE s) (s, [])) c := by rw [List.foldl_append]; rfl
theorem drop_next (s : St) (ps : List Int) (p : Int) : (ps ++ [p]).foldl (dropE s) (killS s) = dropE s (ps.foldl (dropE s) (killS s)) p := by rw [List.foldl_append]; rfl
/-- Within a player's board: the cards that have come by the place j. -/
def upTo (s : St) (ps : List Int) (p : Int) (j : Nat) : List Int := ps.flatMap (spentL s) ++ ((zone s (4 * p + 2)).take j).filter (spentB s)
theorem upTo_zero (s : St) (ps : List Int) (p : Int) : upTo s ps p 0 = ps.flatMap (spentL s) := by simp [upTo]
theorem upTo_all (s : St) (ps : List Int) (p : Int) : upTo s ps p (zone s (4 * p + 2)).length = (ps ++ [p]).flatMap (spentL s) := by simp [upTo, spentL]
theorem upTo_next {s : St} {ps : List Int} {p : Int} {j : Nat} (hj : j < (zone s (4 * p + 2)).length) : upTo s ps p (j + 1) = if spentB s ((zone s (4 * p + 2)).getD j 0) = true then upTo s ps p j ++ [(zone s (4 * p + 2)).getD j 0] else upTo s ps p j := by
  unfold upTo
  rw [List.take_add_one, List.getElem?_eq_getElem hj, getD_lt hj]
  simp only [Option.toList_some, List.filter_append]
  by_cases hs : spentB s (zone s (4 * p + 2))[j] = true
  · rw [if_pos hs, List.filter_cons_of_pos hs, ← List.append_assoc]
    rfl
  · rw [if_neg hs, List.filter_cons_of_neg hs]
    simp
theorem upTo_pre {s : St} {ps qs : List Int} {p : Int} {j : Nat} (e : ringL s = ps ++ p :: qs) : ∃ M, deadL s = upTo s ps p j ++ M := by
  refine ⟨((zone s (4 * p + 2)).drop j).filter (spentB s) ++ qs.flatMap (spentL s), ?_⟩
  have h1 : spentL s p = ((zone s (4 * p + 2)).take j).filter (spentB s) ++ ((zone s (4 * p + 2)).drop j).filter (spentB s) := by
    rw [← List.filter_append, List.take_append_drop]
    rfl
  unfold deadL upTo
  rw [e, List.flatMap_append, List.flatMap_cons, h1]
  simp only [List.append_assoc]
theorem kill_upTo {s : St} (h : May s) {ps qs : List Int} {p : Int} (j : Nat) (e : ringL s = ps ++ p :: qs) : KillI s ((upTo s ps p j).foldl (killE s) (s, [])).1 ((upTo s ps p j).foldl (killE s) (s, [])).2 (upTo s ps p j) := by
  obtain ⟨M, hM⟩ := upTo_pre (j := j) e
  exact kill_pre h hM
/-- Of those that are in: how many, and the last one. -/
def inN (s : St) (ps : List Int) : Nat := (ps.filter (inB s)).length
def inLast (s : St) (ps : List Int) : Int := ((ps.filter (inB s)).getLast?).getD 0
theorem inN_next (s : St) (ps : List Int) (p : Int) : inN s (ps ++ [p]) = if inB s p = true then inN s ps + 1 else inN s ps := by
  unfold inN
  by_cases h : inB s p = true
  · rw [if_pos h, List.filter_append, List.filter_cons_of_pos h]
    simp
  · rw [if_neg h, List.filter_append, List.filter_cons_of_neg h]
    simp
theorem inLast_next (s : St) (ps : List Int) (p : Int) : inLast s (ps ++ [p]) = if inB s p = true then p else inLast s ps := by
  unfold inLast
  by_cases h : inB s p = true
  · rw [if_pos h, List.filter_append, List.filter_cons_of_pos h]
    simp
  · rw [if_neg h, List.filter_append, List.filter_cons_of_neg h]
    simp
theorem endOf_eq (s : St) : endOf (inL s) = if inN s (ringL s) = 0 then { zeroEv with kind := 7, now := 2, player := 0 } else { zeroEv with kind := 7, now := 1, player := inLast s (ringL s) } := by
  unfold endOf inN inLast inL
  cases hg : ((ringL s).filter (inB s)).getLast? with
  | none =>
    rw [List.getLast?_eq_none_iff.1 hg]
    rfl
  | some p =>
    have : ((ringL s).filter (inB s)) ≠ [] := fun e => by rw [e] at hg; cases hg
    rw [if_neg (by simpa [List.length_eq_zero_iff] using this)]
    rfl
end Go.Proofs.YtmhklnjmeoeanaaGreatDoor.D
