/- Rows of memory that share nothing with each other: what an append and a store leave of them. Plain Lean, no program in sight. -/
import Derived.Laws.AppendOwn
import Derived.Laws.OwnMore
import Derived.Test.YtofgmijmhpmabaaGreatDoorWords
namespace Go.Proofs.YtofgmijmhpmabaaGreatDoor.G
open Go
set_option linter.unusedVariables false
set_option linter.unusedSimpArgs false
/-- The block of a row that is written to keeps its first cells. -/
def KeepsHead (w w' : World) (row : Option Nat) (e : TypeId) (k : Nat) : Prop :=
  ∀ g, row = some g → ∀ cur, w.heap[g]? = some (.cells cur e (0, 0)) → ∃ cur', w'.heap[g]? = some (.cells cur' e (0, 0)) ∧ cur'.size = cur.size ∧ cur'.toList.take k = cur.toList.take k
theorem KeepsHead.of_same {w w' : World} {row : Option Nat} {e : TypeId} {k : Nat} (h : ∀ g, row = some g → g < w.heap.size → w'.heap[g]? = w.heap[g]?) : KeepsHead w w' row e k := by
  intro g hg cur hc
  exact ⟨cur, (h g hg (Array.getElem?_eq_some_iff.1 hc).1).trans hc, rfl, rfl⟩
/-- What an append gives beside the new row. -/
structure Went (w w' : World) (e : TypeId) (v v' : Value) (k : Nat) : Prop where
  by_ : w.grownBy w' v.ownBlock
  head : KeepsHead w w' v.ownBlock e k
  new : ∀ g, v'.ownBlock = some g → v.ownBlock = some g ∨ w.heap.size ≤ g
section
variable {P : Program} (w : World)
theorem run_append_keep (base : Nat) (t ty e : TypeId) (i : TypeInfo) (z : Value) (size bytes : Nat) (ht : P.underlying t = some (.slice e)) (hi : P.info? e = some i) (hz : i.zero = some z)
    (hsize : i.size = size) (hby : i.bytes = bytes) (hzs : z.cells.size = size) (hsz : 0 < size)
    (v : Value) (n : Nat) (xs : List Value) (hown : w.ownsRow base e size v n xs)
    (a : Addr) (m c : Nat) (news : List Value) (hl : news.length = m * size) (hnews : ∀ j u, news[j]? = some u → w.cell? (a.add j) = some u) (h1 : ∀ u ∈ news, u.oneCell' = true)
    (h63 : n + m ≤ maxLen) (hbytes : (n + m) * bytes ≤ 140737488355328) (hbase : base ≤ w.heap.size) :
    ∃ v' w', (Builtin.append_ #[t, t] ty #[v, .slice (some a) m c]).run P w = .ok v' w' ∧ w'.ownsRow base e size v' (n + m) (xs ++ news) ∧ Went w w' e v v' (n * size) := by
  subst hsize
  subst hby
  have hsmall : n + m ≤ 9223372036854775807 := by simp only [maxLen] at h63; omega
  have hlen : (xs ++ news).length = (n + m) * i.size := by rw [List.length_append, hown.1, hl, Nat.add_mul]
  have grown : ∀ (old : Nat), old < n + m → ∀ (row : Option Nat),
      (w.drew.alloc (.cells (xs.toArray ++ news.toArray ++ Builtin.zeroCells z.cells (grownCap w (n + m) old e - (n + m))) e)).ownsRow base e i.size
        (.slice (some ⟨w.heap.size, 0, none⟩) (n + m) (grownCap w (n + m) old e)) (n + m) (xs ++ news) ∧
      w.grownBy (w.drew.alloc (.cells (xs.toArray ++ news.toArray ++ Builtin.zeroCells z.cells (grownCap w (n + m) old e - (n + m))) e)) row ∧
      KeepsHead w (w.drew.alloc (.cells (xs.toArray ++ news.toArray ++ Builtin.zeroCells z.cells (grownCap w (n + m) old e - (n + m))) e)) row e (n * i.size) := by
    intro old ho row
    have hge := grownCap_ge w (n + m) old e
    have hcm : grownCap w (n + m) old e ≤ maxLen := grownCap_le_maxLen w (n + m) old e h63
    refine ⟨⟨hlen, .inr ⟨w.heap.size, _, _, rfl, hbase, heap_alloc_new w.drew _, hge, hcm, ?_, ?_⟩⟩, ⟨rfl, rfl, rfl, by simp, fun k hk _ => RowKit.Below.heap_alloc w.drew _ k hk⟩, KeepsHead.of_same fun g _ hg => RowKit.Below.heap_alloc w.drew _ g hg⟩
    · simp only [Array.size_append, List.size_toArray, size_zeroCells, hzs, hown.1, hl, ← Nat.add_mul]
      congr 1
      omega
    · simp only [Array.toList_append, List.append_assoc]
      rw [← List.append_assoc, ← hlen]
      exact List.take_left
  rcases hown.2 with ⟨rfl, rfl⟩ | ⟨g, cap, cur, rfl, hbg, hg, hnc, hcm, hcs, htake⟩
  · have hx : xs = [] := List.eq_nil_of_length_eq_zero (by simpa using hown.1)
    subst hx
    by_cases hm : m = 0
    · subst hm
      have hn : news = [] := List.eq_nil_of_length_eq_zero (by simpa using hl)
      subst hn
      refine ⟨.slice none 0 0, w, ?_, World.ownsRow_nil w base e i.size, ⟨⟨rfl, rfl, rfl, Nat.le_refl _, fun _ _ _ => rfl⟩, KeepsHead.of_same fun _ _ _ => rfl, fun g h => .inl h⟩⟩
      simp [Builtin.append_, run_underlying ht, sizeOf, typeInfo, hi, Builtin.lenOf, Builtin.firstCells, loadCells, loadCellsFrom]
    · have hr := run_append_nil (P := P) w t ty e i z ht hi hz a m c news hl hnews (by omega) (by omega) (by have hb := hbytes; simp only [Nat.zero_add] at hb; omega)
      have hgr := grown 0 (by omega) (Value.ownBlock (.slice none 0 0))
      simp only [Nat.zero_add, List.nil_append, Array.empty_append] at hgr ⊢
      refine ⟨_, _, hr, hgr.1, ⟨hgr.2.1, hgr.2.2, fun g h => .inr ?_⟩⟩
      simp [Value.ownBlock] at h
      omega
  · by_cases hroom : n + m ≤ cap
    · have hfit : n * i.size + news.length ≤ cur.size := by rw [hl, hcs, ← Nat.add_mul]; exact Nat.mul_le_mul_right _ hroom
      have hr := run_append_room (P := P) w t ty e i ht hi g n cap cur hg a m c news hl hnews h1 hroom hfit
      refine ⟨_, _, hr, ⟨hlen, .inr ⟨g, cap, _, rfl, hbg, setRow_heap w g cur _ e _ hg, hroom, hcm, ?_, ?_⟩⟩, ⟨⟨rfl, rfl, rfl, by simp, fun k _ hk => setRow_other w g k _ (fun e => hk (by simp [Value.ownBlock, e]))⟩, ?_, fun g h => .inl h⟩⟩
      · simp only [List.size_toArray, List.length_append, List.length_take, List.length_drop, Array.length_toList]
        omega
      · rw [htake, ← hlen]
        exact List.take_left
      · intro g' hg' cur' hc'
        simp only [Value.ownBlock, Option.some.injEq] at hg'
        subst hg'
        rw [hg] at hc'
        simp only [Option.some.injEq, Obj.cells.injEq, and_true] at hc'
        obtain rfl := hc'
        refine ⟨_, setRow_heap w g cur _ e _ hg, ?_, ?_⟩
        · simp only [List.size_toArray, List.length_append, List.length_take, List.length_drop, Array.length_toList]
          omega
        · have h2 : (cur.toList.take (n * i.size)).length = n * i.size := by rw [List.length_take, Array.length_toList]; omega
          rw [List.append_assoc]
          conv => lhs; arg 1; rw [← h2]
          exact List.take_left
    · have holds : ∀ j u, xs[j]? = some u → w.cell? ((⟨g, 0, none⟩ : Addr).add j) = some u := hown.cells (g := g) rfl
      have hr := run_append_grow (P := P) w t ty e i z ht hi hz ⟨g, 0, none⟩ n cap xs hown.1 holds a m c news hl hnews (by omega) (by omega) (growslice_fits (by omega) hbytes)
      have hgr := grown cap (by omega) (Value.ownBlock (.slice (some ⟨g, 0, none⟩) n cap))
      refine ⟨_, _, hr, hgr.1, ⟨hgr.2.1, hgr.2.2, fun g h => .inr ?_⟩⟩
      simp [Value.ownBlock] at h
      omega
theorem wpList_append_keep {ops : Array Oper} {rest : List Oper} {o : Oper} {a : Act} {Q : Exit → Act → World → Prop} (hgd : o.guard = none) (s x : Operand) (t : TypeId)
    (ho : o.op = .call { callee := .builtin .append, args := #[s, x], argTypes := #[t, t] })
    (base : Nat) (e : TypeId) (i : TypeInfo) (z : Value) (size bytes : Nat) (ht : P.underlying t = some (.slice e)) (hi : P.info? e = some i) (hz : i.zero = some z)
    (hsize : i.size = size) (hby : i.bytes = bytes) (hzs : z.cells.size = size) (hsz : 0 < size)
    (v : Value) (n : Nat) (xs : List Value) (hs : a.eval s = v) (hown : w.ownsRow base e size v n xs)
    (ad : Addr) (m c : Nat) (news : List Value) (hx : a.eval x = .slice (some ad) m c) (hl : news.length = m * size) (hnews : ∀ j u, news[j]? = some u → w.cell? (ad.add j) = some u) (h1 : ∀ u ∈ news, u.oneCell' = true)
    (h63 : n + m ≤ maxLen) (hbytes : (n + m) * bytes ≤ 140737488355328) (hbase : base ≤ w.heap.size)
    (h : ∀ v' w', w'.ownsRow base e size v' (n + m) (xs ++ news) → Went w w' e v v' (n * size) → wpList P ops Q rest (a.put o.dst v') w') : wpList P ops Q (o :: rest) a w := by
  refine wpList_plain hgd fun K hK => ?_
  obtain ⟨v', w', hr, h2, h3⟩ := run_append_keep (P := P) w base t o.type e i z size bytes ht hi hz hsize hby hzs hsz v n xs hown ad m c news hl hnews h1 h63 hbytes hbase
  unfold Oper.wp execOp
  simp only [ho, resolve, invoke, builtin, Sem.run_bind, Sem.run_pure, Result.andThen_ok, List.map_toArray, List.map_cons, List.map_nil, hs, hx, hr]
  exact hK _ _ (h v' w' h2 h3)
end

/-! ### A family of rows: rows of different tags share no block -/
structure Rw where
  tag : Nat
  v : Value
  n : Nat
  xs : List Value
def Fam (w : World) (base : Nat) (e : TypeId) (size : Nat) (R : Rw → Prop) : Prop :=
  (∀ r, R r → w.ownsRow base e size r.v r.n r.xs) ∧ ∀ r, R r → ∀ r', R r' → r.tag ≠ r'.tag → r.v.ownBlock = none ∨ r.v.ownBlock ≠ r'.v.ownBlock
section
variable {w w' : World} {base : Nat} {e : TypeId} {size : Nat} {R : Rw → Prop}
theorem Fam.sub {R' : Rw → Prop} (h : Fam w base e size R) (hs : ∀ r, R' r → R r) : Fam w base e size R' :=
  ⟨fun r hr => h.1 r (hs r hr), fun r hr r' hr' => h.2 r (hs r hr) r' (hs r' hr')⟩
theorem Fam.kept {row : Option Nat} (h : Fam w base e size R) (hg : w.grownBy w' row) (hne : ∀ r, R r → r.v.ownBlock = none ∨ r.v.ownBlock ≠ row) : Fam w' base e size R :=
  ⟨fun r hr => (h.1 r hr).kept hg (hne r hr), h.2⟩
theorem ownsRow_head {v : Value} {n : Nat} {xs : List Value} {row : Option Nat} {k : Nat} (h : w.ownsRow base e size v n xs) (hv : v.ownBlock = row) (hk : KeepsHead w w' row e k) (hn : n * size ≤ k) : w'.ownsRow base e size v n xs := by
  refine ⟨h.1, ?_⟩
  rcases h.2 with hn | ⟨g, cap, cur, rfl, hb, hgg, hnc, hcm, hcs, ht⟩
  · exact .inl hn
  · obtain ⟨cur', h1, h2, h3⟩ := hk g hv.symm cur hgg
    refine .inr ⟨g, cap, cur', rfl, hb, h1, hnc, hcm, h2.trans hcs, ?_⟩
    rw [← ht]
    have h4 := congrArg (List.take (n * size)) h3
    rwa [List.take_take, List.take_take, Nat.min_eq_left hn] at h4
theorem ownsRow.block_e {v : Value} {n : Nat} {xs : List Value} (h : w.ownsRow base e size v n xs) {g : Nat} (hg : v.ownBlock = some g) : ∃ cur, w.heap[g]? = some (.cells cur e (0, 0)) := by
  rcases h.2 with ⟨rfl, _⟩ | ⟨g', cap, cur, rfl, hb, hgg, _⟩
  · cases hg
  · simp only [Value.ownBlock, Option.some.injEq] at hg
    subst hg
    exact ⟨cur, hgg⟩
/-- Rows of different element types lie in different blocks. -/
theorem ownsRow.apart {v v2 : Value} {n n2 : Nat} {xs xs2 : List Value} {e2 : TypeId} {base2 size2 : Nat} (h : w.ownsRow base e size v n xs) (h2 : w.ownsRow base2 e2 size2 v2 n2 xs2) (he : e ≠ e2) : v.ownBlock = none ∨ v.ownBlock ≠ v2.ownBlock := by
  cases hv : v.ownBlock with
  | none => exact .inl rfl
  | some g =>
    refine .inr fun hh => ?_
    obtain ⟨c1, h3⟩ := ownsRow.block_e h hv
    obtain ⟨c2, h4⟩ := ownsRow.block_e h2 hh.symm
    rw [h3] at h4
    simp only [Option.some.injEq, Obj.cells.injEq] at h4
    exact he h4.2.1
theorem ownsRow.ge {v : Value} {n : Nat} {xs : List Value} (h : w.ownsRow base e size v n xs) {b2 : Nat} (hb : ∀ g, v.ownBlock = some g → b2 ≤ g) : w.ownsRow b2 e size v n xs := by
  refine ⟨h.1, ?_⟩
  rcases h.2 with hn | ⟨g, cap, cur, rfl, _, r⟩
  · exact .inl hn
  · exact .inr ⟨g, cap, cur, rfl, hb g rfl, r⟩
theorem Fam.append {r : Rw} (h : Fam w base e size R) (hr : R r) (hmax : ∀ r', R r' → r'.tag = r.tag → r'.n ≤ r.n) {v' : Value} {n' : Nat} {xs' : List Value}
    (hown : w'.ownsRow base e size v' n' xs') (hw : Went w w' e r.v v' (r.n * size)) : Fam w' base e size (fun s => s = ⟨r.tag, v', n', xs'⟩ ∨ R s) := by
  refine ⟨fun s hs => ?_, ?_⟩
  · rcases hs with rfl | hs
    · exact hown
    · by_cases hb : s.v.ownBlock = none ∨ s.v.ownBlock ≠ r.v.ownBlock
      · exact (h.1 s hs).kept hw.by_ hb
      · have hb' : s.v.ownBlock = r.v.ownBlock := by
          by_cases hx : s.v.ownBlock = r.v.ownBlock
          · exact hx
          · exact absurd (.inr hx) hb
        have ht : s.tag = r.tag := by
          by_cases hx : s.tag = r.tag
          · exact hx
          · exact absurd (h.2 s hs r hr hx) hb
        exact ownsRow_head (h.1 s hs) hb' hw.head (Nat.mul_le_mul_right _ (hmax s hs ht))
  · have hnew : ∀ s, R s → r.tag ≠ s.tag → (v'.ownBlock = none ∨ v'.ownBlock ≠ s.v.ownBlock) ∧ (s.v.ownBlock = none ∨ s.v.ownBlock ≠ v'.ownBlock) := by
      intro s hs ht
      cases hv : v'.ownBlock with
      | none => exact ⟨.inl rfl, by cases s.v.ownBlock <;> simp⟩
      | some g =>
        rcases hw.new g hv with h5 | h5
        · have h6 := h.2 r hr s hs ht
          rw [h5] at h6
          rcases h6 with h6 | h6
          · cases h6
          · exact ⟨.inr h6, .inr fun hh => h6 hh.symm⟩
        · have h6 : s.v.ownBlock ≠ some g := fun hh => by
            have := ((h.1 s hs).lt g hh).2
            omega
          exact ⟨.inr fun hh => h6 hh.symm, .inr h6⟩
    intro s hs s' hs' ht
    rcases hs with rfl | hs <;> rcases hs' with rfl | hs'
    · exact absurd rfl ht
    · exact (hnew s' hs' ht).1
    · exact (hnew s hs (fun hh => ht hh.symm)).2
    · exact h.2 s hs s' hs' ht
/-- One row is written over. -/
theorem Fam.over {r : Rw} (h : Fam w base e size R) (hr : R r) {xs' : List Value} (hown : w'.ownsRow base e size r.v r.n xs') (hg : w.grownBy w' r.v.ownBlock) :
    Fam w' base e size (fun s => s = ⟨r.tag, r.v, r.n, xs'⟩ ∨ R s ∧ s.tag ≠ r.tag) := by
  refine ⟨fun s hs => ?_, fun s hs s' hs' ht => ?_⟩
  · rcases hs with rfl | ⟨hs, ht⟩
    · exact hown
    · exact (h.1 s hs).kept hg (h.2 s hs r hr ht)
  · rcases hs with rfl | ⟨hs, ht1⟩ <;> rcases hs' with rfl | ⟨hs', ht2⟩
    · exact absurd rfl ht
    · exact h.2 r hr s' hs' ht
    · exact h.2 s hs r hr ht
    · exact h.2 s hs s' hs' ht
end
end Go.Proofs.YtofgmijmhpmabaaGreatDoor.G
