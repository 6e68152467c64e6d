/- Lists of lists that are written full of marks, gone on with, and looked at: the rows that stand in memory at each point. Plain Lean, no program in sight. -/
import Derived.Laws.AppendOwn
import Derived.Laws.OwnMore
import Derived.Test.YtofgmijmhpmabaaGreatDoorWords
namespace Go.Proofs.YtofgmijmhpmabaaGreatDoor.G
open Go
set_option linter.unusedVariables false
set_option linter.unusedSimpArgs false
/-- The block of a row that is written to keeps its first cells. -/
def KeepsHead (w w' : World) (row : Option Nat) (e : TypeId) (k : Nat) : Prop :=
  ∀ g, row = some g → ∀ cur, w.heap[g]? = some (.cells cur e (0, 0)) → ∃ cur', w'.heap[g]? = some (.cells cur' e (0, 0)) ∧ cur'.size = cur.size ∧ cur'.toList.take k = cur.toList.take k
theorem KeepsHead.of_same {w w' : World} {row : Option Nat} {e : TypeId} {k : Nat} (h : ∀ g, row = some g → g < w.heap.size → w'.heap[g]? = w.heap[g]?) : KeepsHead w w' row e k := by
  intro g hg cur hc
  exact ⟨cur, (h g hg (Array.getElem?_eq_some_iff.1 hc).1).trans hc, rfl, rfl⟩
/-- What an append gives beside the new row. -/
structure Went (w w' : World) (e : TypeId) (v v' : Value) (k : Nat) : Prop where
  by_ : w.grownBy w' v.ownBlock
  head : KeepsHead w w' v.ownBlock e k
  new : ∀ g, v'.ownBlock = some g → v.ownBlock = some g ∨ w.heap.size ≤ g
section
variable {P : Program} (w : World)
theorem run_append_keep (base : Nat) (t ty e : TypeId) (i : TypeInfo) (z : Value) (size bytes : Nat) (ht : P.underlying t = some (.slice e)) (hi : P.info? e = some i) (hz : i.zero = some z)
    (hsize : i.size = size) (hby : i.bytes = bytes) (hzs : z.cells.size = size) (hsz : 0 < size)
    (v : Value) (n : Nat) (xs : List Value) (hown : w.ownsRow base e size v n xs)
    (a : Addr) (m c : Nat) (news : List Value) (hl : news.length = m * size) (hnews : ∀ j u, news[j]? = some u → w.cell? (a.add j) = some u) (h1 : ∀ u ∈ news, u.oneCell' = true)
    (h63 : n + m ≤ maxLen) (hbytes : (n + m) * bytes ≤ 140737488355328) (hbase : base ≤ w.heap.size) :
    ∃ v' w', (Builtin.append_ #[t, t] ty #[v, .slice (some a) m c]).run P w = .ok v' w' ∧ w'.ownsRow base e size v' (n + m) (xs ++ news) ∧ Went w w' e v v' (n * size) := by
  subst hsize
  subst hby
  have hsmall : n + m ≤ 9223372036854775807 := by simp only [maxLen] at h63; omega
  have hlen : (xs ++ news).length = (n + m) * i.size := by rw [List.length_append, hown.1, hl, Nat.add_mul]
  have grown : ∀ (old : Nat), old < n + m → ∀ (row : Option Nat),
      (w.drew.alloc (.cells (xs.toArray ++ news.toArray ++ Builtin.zeroCells z.cells (grownCap w (n + m) old e - (n + m))) e)).ownsRow base e i.size
        (.slice (some ⟨w.heap.size, 0, none⟩) (n + m) (grownCap w (n + m) old e)) (n + m) (xs ++ news) ∧
      w.grownBy (w.drew.alloc (.cells (xs.toArray ++ news.toArray ++ Builtin.zeroCells z.cells (grownCap w (n + m) old e - (n + m))) e)) row ∧
      KeepsHead w (w.drew.alloc (.cells (xs.toArray ++ news.toArray ++ Builtin.zeroCells z.cells (grownCap w (n + m) old e - (n + m))) e)) row e (n * i.size) := by
    intro old ho row
    have hge := grownCap_ge w (n + m) old e
    have hcm : grownCap w (n + m) old e ≤ maxLen := grownCap_le_maxLen w (n + m) old e h63
    refine ⟨⟨hlen, .inr ⟨w.heap.size, _, _, rfl, hbase, heap_alloc_new w.drew _, hge, hcm, ?_, ?_⟩⟩, ⟨rfl, rfl, rfl, by simp, fun k hk _ => RowKit.Below.heap_alloc w.drew _ k hk⟩, KeepsHead.of_same fun g _ hg => RowKit.Below.heap_alloc w.drew _ g hg⟩
    · simp only [Array.size_append, List.size_toArray, size_zeroCells, hzs, hown.1, hl, ← Nat.add_mul]
      congr 1
      omega
    · simp only [Array.toList_append, List.append_assoc]
      rw [← List.append_assoc, ← hlen]
      exact List.take_left
  rcases hown.2 with ⟨rfl, rfl⟩ | ⟨g, cap, cur, rfl, hbg, hg, hnc, hcm, hcs, htake⟩
  · have hx : xs = [] := List.eq_nil_of_length_eq_zero (by simpa using hown.1)
    subst hx
    by_cases hm : m = 0
    · subst hm
      have hn : news = [] := List.eq_nil_of_length_eq_zero (by simpa using hl)
      subst hn
      refine ⟨.slice none 0 0, w, ?_, World.ownsRow_nil w base e i.size, ⟨⟨rfl, rfl, rfl, Nat.le_refl _, fun _ _ _ => rfl⟩, KeepsHead.of_same fun _ _ _ => rfl, fun g h => .inl h⟩⟩
      simp [Builtin.append_, run_underlying ht, sizeOf, typeInfo, hi, Builtin.lenOf, Builtin.firstCells, loadCells, loadCellsFrom]
    · have hr := run_append_nil (P := P) w t ty e i z ht hi hz a m c news hl hnews (by omega) (by omega) (by have hb := hbytes; simp only [Nat.zero_add] at hb; omega)
      have hgr := grown 0 (by omega) (Value.ownBlock (.slice none 0 0))
      simp only [Nat.zero_add, List.nil_append, Array.empty_append] at hgr ⊢
      refine ⟨_, _, hr, hgr.1, ⟨hgr.2.1, hgr.2.2, fun g h => .inr ?_⟩⟩
      simp [Value.ownBlock] at h
      omega
  · by_cases hroom : n + m ≤ cap
    · have hfit : n * i.size + news.length ≤ cur.size := by rw [hl, hcs, ← Nat.add_mul]; exact Nat.mul_le_mul_right _ hroom
      have hr := run_append_room (P := P) w t ty e i ht hi g n cap cur hg a m c news hl hnews h1 hroom hfit
      refine ⟨_, _, hr, ⟨hlen, .inr ⟨g, cap, _, rfl, hbg, setRow_heap w g cur _ e _ hg, hroom, hcm, ?_, ?_⟩⟩, ⟨⟨rfl, rfl, rfl, by simp, fun k _ hk => setRow_other w g k _ (fun e => hk (by simp [Value.ownBlock, e]))⟩, ?_, fun g h => .inl h⟩⟩
      · simp only [List.size_toArray, List.length_append, List.length_take, List.length_drop, Array.length_toList]
        omega
      · rw [htake, ← hlen]
        exact List.take_left
      · intro g' hg' cur' hc'
        simp only [Value.ownBlock, Option.some.injEq] at hg'
        subst hg'
        rw [hg] at hc'
        simp only [Option.some.injEq, Obj.cells.injEq, and_true] at hc'
        obtain rfl := hc'
        refine ⟨_, setRow_heap w g cur _ e _ hg, ?_, ?_⟩
        · simp only [List.size_toArray, List.length_append, List.length_take, List.length_drop, Array.length_toList]
          omega
        · have h2 : (cur.toList.take (n * i.size)).length = n * i.size := by rw [List.length_take, Array.length_toList]; omega
          rw [List.append_assoc]
          conv => lhs; arg 1; rw [← h2]
          exact List.take_left
    · have holds : ∀ j u, xs[j]? = some u → w.cell? ((⟨g, 0, none⟩ : Addr).add j) = some u := hown.cells (g := g) rfl
      have hr := run_append_grow (P := P) w t ty e i z ht hi hz ⟨g, 0, none⟩ n cap xs hown.1 holds a m c news hl hnews (by omega) (by omega) (growslice_fits (by omega) hbytes)
      have hgr := grown cap (by omega) (Value.ownBlock (.slice (some ⟨g, 0, none⟩) n cap))
      refine ⟨_, _, hr, hgr.1, ⟨hgr.2.1, hgr.2.2, fun g h => .inr ?_⟩⟩
      simp [Value.ownBlock] at h
      omega
theorem wpList_append_keep {ops : Array Oper} {rest : List Oper} {o : Oper} {a : Act} {Q : Exit → Act → World → Prop} (hgd : o.guard = none) (s x : Operand) (t : TypeId)
    (ho : o.op = .call { callee := .builtin .append, args := #[s, x], argTypes := #[t, t] })
    (base : Nat) (e : TypeId) (i : TypeInfo) (z : Value) (size bytes : Nat) (ht : P.underlying t = some (.slice e)) (hi : P.info? e = some i) (hz : i.zero = some z)
    (hsize : i.size = size) (hby : i.bytes = bytes) (hzs : z.cells.size = size) (hsz : 0 < size)
    (v : Value) (n : Nat) (xs : List Value) (hs : a.eval s = v) (hown : w.ownsRow base e size v n xs)
    (ad : Addr) (m c : Nat) (news : List Value) (hx : a.eval x = .slice (some ad) m c) (hl : news.length = m * size) (hnews : ∀ j u, news[j]? = some u → w.cell? (ad.add j) = some u) (h1 : ∀ u ∈ news, u.oneCell' = true)
    (h63 : n + m ≤ maxLen) (hbytes : (n + m) * bytes ≤ 140737488355328) (hbase : base ≤ w.heap.size)
    (h : ∀ v' w', w'.ownsRow base e size v' (n + m) (xs ++ news) → Went w w' e v v' (n * size) → wpList P ops Q rest (a.put o.dst v') w') : wpList P ops Q (o :: rest) a w := by
  refine wpList_plain hgd fun K hK => ?_
  obtain ⟨v', w', hr, h2, h3⟩ := run_append_keep (P := P) w base t o.type e i z size bytes ht hi hz hsize hby hzs hsz v n xs hown ad m c news hl hnews h1 h63 hbytes hbase
  unfold Oper.wp execOp
  simp only [ho, resolve, invoke, builtin, Sem.run_bind, Sem.run_pure, Result.andThen_ok, List.map_toArray, List.map_cons, List.map_nil, hs, hx, hr]
  exact hK _ _ (h v' w' h2 h3)
end

/-! ### A family of rows: rows of different tags share no block -/
structure Rw where
  tag : Nat
  v : Value
  n : Nat
  xs : List Value
def Fam (w : World) (base : Nat) (e : TypeId) (size : Nat) (R : Rw → Prop) : Prop :=
  (∀ r, R r → w.ownsRow base e size r.v r.n r.xs) ∧ ∀ r, R r → ∀ r', R r' → r.tag ≠ r'.tag → r.v.ownBlock = none ∨ r.v.ownBlock ≠ r'.v.ownBlock
section
variable {w w' : World} {base : Nat} {e : TypeId} {size : Nat} {R : Rw → Prop}
theorem Fam.sub {R' : Rw → Prop} (h : Fam w base e size R) (hs : ∀ r, R' r → R r) : Fam w base e size R' :=
  ⟨fun r hr => h.1 r (hs r hr), fun r hr r' hr' => h.2 r (hs r hr) r' (hs r' hr')⟩
theorem Fam.kept {row : Option Nat} (h : Fam w base e size R) (hg : w.grownBy w' row) (hne : ∀ r, R r → r.v.ownBlock = none ∨ r.v.ownBlock ≠ row) : Fam w' base e size R :=
  ⟨fun r hr => (h.1 r hr).kept hg (hne r hr), h.2⟩
theorem ownsRow_head {v : Value} {n : Nat} {xs : List Value} {row : Option Nat} {k : Nat} (h : w.ownsRow base e size v n xs) (hv : v.ownBlock = row) (hk : KeepsHead w w' row e k) (hn : n * size ≤ k) : w'.ownsRow base e size v n xs := by
  refine ⟨h.1, ?_⟩
  rcases h.2 with hn | ⟨g, cap, cur, rfl, hb, hgg, hnc, hcm, hcs, ht⟩
  · exact .inl hn
  · obtain ⟨cur', h1, h2, h3⟩ := hk g hv.symm cur hgg
    refine .inr ⟨g, cap, cur', rfl, hb, h1, hnc, hcm, h2.trans hcs, ?_⟩
    rw [← ht]
    have h4 := congrArg (List.take (n * size)) h3
    rwa [List.take_take, List.take_take, Nat.min_eq_left hn] at h4
theorem ownsRow.block_e {v : Value} {n : Nat} {xs : List Value} (h : w.ownsRow base e size v n xs) {g : Nat} (hg : v.ownBlock = some g) : ∃ cur, w.heap[g]? = some (.cells cur e (0, 0)) := by
  rcases h.2 with ⟨rfl, _⟩ | ⟨g', cap, cur, rfl, hb, hgg, _⟩
  · cases hg
  · simp only [Value.ownBlock, Option.some.injEq] at hg
    subst hg
    exact ⟨cur, hgg⟩
/-- Rows of different element types lie in different blocks. -/
theorem ownsRow.apart {v v2 : Value} {n n2 : Nat} {xs xs2 : List Value} {e2 : TypeId} {base2 size2 : Nat} (h : w.ownsRow base e size v n xs) (h2 : w.ownsRow base2 e2 size2 v2 n2 xs2) (he : e ≠ e2) : v.ownBlock = none ∨ v.ownBlock ≠ v2.ownBlock := by
  cases hv : v.ownBlock with
  | none => exact .inl rfl
  | some g =>
    refine .inr fun hh => ?_
    obtain ⟨c1, h3⟩ := ownsRow.block_e h hv
    obtain ⟨c2, h4⟩ := ownsRow.block_e h2 hh.symm
    rw [h3] at h4
    simp only [Option.some.injEq, Obj.cells.injEq] at h4
    exact he h4.2.1
theorem ownsRow.ge {v : Value} {n : Nat} {xs : List Value} (h : w.ownsRow base e size v n xs) {b2 : Nat} (hb : ∀ g, v.ownBlock = some g → b2 ≤ g) : w.ownsRow b2 e size v n xs := by
  refine ⟨h.1, ?_⟩
  rcases h.2 with hn | ⟨g, cap, cur, rfl, _, r⟩
  · exact .inl hn
  · exact .inr ⟨g, cap, cur, rfl, hb g rfl, r⟩
theorem Fam.append {r : Rw} (h : Fam w base e size R) (hr : R r) (hmax : ∀ r', R r' → r'.tag = r.tag → r'.n ≤ r.n) {v' : Value} {n' : Nat} {xs' : List Value}
    (hown : w'.ownsRow base e size v' n' xs') (hw : Went w w' e r.v v' (r.n * size)) : Fam w' base e size (fun s => s = ⟨r.tag, v', n', xs'⟩ ∨ R s) := by
  refine ⟨fun s hs => ?_, ?_⟩
  · rcases hs with rfl | hs
    · exact hown
    · by_cases hb : s.v.ownBlock = none ∨ s.v.ownBlock ≠ r.v.ownBlock
      · exact (h.1 s hs).kept hw.by_ hb
      · have hb' : s.v.ownBlock = r.v.ownBlock := by
          by_cases hx : s.v.ownBlock = r.v.ownBlock
          · exact hx
          · exact absurd (.inr hx) hb
        have ht : s.tag = r.tag := by
          by_cases hx : s.tag = r.tag
          · exact hx
          · exact absurd (h.2 s hs r hr hx) hb
        exact ownsRow_head (h.1 s hs) hb' hw.head (Nat.mul_le_mul_right _ (hmax s hs ht))
  · have hnew : ∀ s, R s → r.tag ≠ s.tag → (v'.ownBlock = none ∨ v'.ownBlock ≠ s.v.ownBlock) ∧ (s.v.ownBlock = none ∨ s.v.ownBlock ≠ v'.ownBlock) := by
      intro s hs ht
      cases hv : v'.ownBlock with
      | none => exact ⟨.inl rfl, by cases s.v.ownBlock <;> simp⟩
      | some g =>
        rcases hw.new g hv with h5 | h5
        · have h6 := h.2 r hr s hs ht
          rw [h5] at h6
          rcases h6 with h6 | h6
          · cases h6
          · exact ⟨.inr h6, .inr fun hh => h6 hh.symm⟩
        · have h6 : s.v.ownBlock ≠ some g := fun hh => by
            have := ((h.1 s hs).lt g hh).2
            omega
          exact ⟨.inr fun hh => h6 hh.symm, .inr h6⟩
    intro s hs s' hs' ht
    rcases hs with rfl | hs <;> rcases hs' with rfl | hs'
    · exact absurd rfl ht
    · exact (hnew s' hs' ht).1
    · exact (hnew s hs (fun hh => ht hh.symm)).2
    · exact h.2 s hs s' hs' ht
/-- One row is written over. -/
theorem Fam.over {r : Rw} (h : Fam w base e size R) (hr : R r) {xs' : List Value} (hown : w'.ownsRow base e size r.v r.n xs') (hg : w.grownBy w' r.v.ownBlock) :
    Fam w' base e size (fun s => s = ⟨r.tag, r.v, r.n, xs'⟩ ∨ R s ∧ s.tag ≠ r.tag) := by
  refine ⟨fun s hs => ?_, fun s hs s' hs' ht => ?_⟩
  · rcases hs with rfl | ⟨hs, ht⟩
    · exact hown
    · exact (h.1 s hs).kept hg (h.2 s hs r hr ht)
  · rcases hs with rfl | ⟨hs, ht1⟩ <;> rcases hs' with rfl | ⟨hs', ht2⟩
    · exact absurd rfl ht
    · exact h.2 r hr s' hs' ht
    · exact h.2 s hs r hr ht
    · exact h.2 s hs s' hs' ht
end
end Go.Proofs.YtofgmijmhpmabaaGreatDoor.G
namespace Go.Proofs.YtofgmijmhpmabaaGreatDoor.G
open Go Go.RowKit
set_option linter.unusedVariables false
set_option linter.unusedSimpArgs false
/-- One of the lists: its value, its length, its cells. -/
structure Lst where
  v : Value
  n : Nat
  xs : List Value
def mks (mk : Nat → Nat → List Value) (t n : Nat) : List Value := (List.range n).flatMap (mk t)
section
variable {mk : Nat → Nat → List Value} {sz : Nat} (hmk : ∀ n i, (mk n i).length = sz)
theorem mks_zero (t : Nat) : mks mk t 0 = [] := rfl
theorem mks_succ (t n : Nat) : mks mk t (n + 1) = mks mk t n ++ mk t n := by simp [mks, List.range_succ]
include hmk in
theorem mks_length (t n : Nat) : (mks mk t n).length = n * sz := by
  induction n with
  | zero => simp [mks]
  | succ n ih => rw [mks_succ, List.length_append, ih, hmk, Nat.succ_mul]
include hmk in
theorem mks_at (t n i j : Nat) (hi : i < n) (hj : j < sz) : (mks mk t n)[i * sz + j]? = (mk t i)[j]? := by
  induction n with
  | zero => omega
  | succ n ih =>
    rw [mks_succ]
    by_cases h : i < n
    · have h1 : i * sz + j < n * sz := by
        have : (i + 1) * sz ≤ n * sz := Nat.mul_le_mul_right _ h
        rw [Nat.succ_mul] at this
        omega
      rw [List.getElem?_append_left (by rw [mks_length hmk]; exact h1), ih h]
    · obtain rfl : i = n := by omega
      rw [List.getElem?_append_right (by rw [mks_length hmk]; omega), mks_length hmk]
      congr 1
      omega
end
def Rows0 (Ls : List Lst) : Rw → Prop := fun r => ∃ l, Ls[r.tag]? = some l ∧ r.v = l.v ∧ r.n = l.n ∧ r.xs = l.xs
/-- The first part: lists before n are full of marks, list n up to i. -/
def P1 (Ls : List Lst) (mk : Nat → Nat → List Value) (sz n i : Nat) : Rw → Prop := fun r => ∃ l, Ls[r.tag]? = some l ∧ r.v = l.v ∧ r.n = l.n ∧
  r.xs = (if r.tag < n then mks mk r.tag l.n else if r.tag = n then mks mk n i ++ l.xs.drop (i * sz) else l.xs)
/-- The second part: os, ms: those that were kept after one more, and after 70 more. -/
def P2 (Ls : List Lst) (mk : Nat → Nat → List Value) (os ms : List Value) : Rw → Prop := fun r => ∃ l, Ls[r.tag]? = some l ∧
  ((r.v = l.v ∧ r.n = l.n ∧ r.xs = mks mk r.tag l.n) ∨ (os[r.tag]? = some r.v ∧ r.n = l.n + 1 ∧ r.xs = mks mk r.tag (l.n + 1)) ∨ (ms[r.tag]? = some r.v ∧ r.n = l.n + 70 ∧ r.xs = mks mk r.tag (l.n + 70)))
def P2in (Ls : List Lst) (mk : Nat → Nat → List Value) (os ms : List Value) (n : Nat) (v : Value) (m : Nat) : Rw → Prop := fun r => P2 Ls mk os ms r ∨ r = ⟨n, v, m, mks mk n m⟩
section
variable {w w' : World} {base : Nat} {e : TypeId} {sz : Nat} {Ls : List Lst} {mk : Nat → Nat → List Value}
theorem p1_start (h : Fam w base e sz (Rows0 Ls)) : Fam w base e sz (P1 Ls mk sz 0 0) := by
  refine h.sub fun r ⟨l, h1, h2, h3, h4⟩ => ⟨l, h1, h2, h3, ?_⟩
  rw [h4]
  by_cases h0 : r.tag = 0 <;> simp [h0, mks_zero]
theorem p1_row {n i : Nat} {l : Lst} (h : Fam w base e sz (P1 Ls mk sz n i)) (hl : Ls[n]? = some l) : w.ownsRow base e sz l.v l.n (mks mk n i ++ l.xs.drop (i * sz)) := by
  have := h.1 ⟨n, l.v, l.n, mks mk n i ++ l.xs.drop (i * sz)⟩ ⟨l, hl, rfl, rfl, by simp⟩
  exact this
theorem p1_step (hmk : ∀ n i, (mk n i).length = sz) {n i : Nat} {l : Lst} (h : Fam w base e sz (P1 Ls mk sz n i)) (hl : Ls[n]? = some l) (hi : i < l.n)
    (hown : w'.ownsRow base e sz l.v l.n (mks mk n i ++ mk n i ++ l.xs.drop ((i + 1) * sz))) (hg : w.grownBy w' l.v.ownBlock) : Fam w' base e sz (P1 Ls mk sz n (i + 1)) := by
  have hr : P1 Ls mk sz n i ⟨n, l.v, l.n, mks mk n i ++ l.xs.drop (i * sz)⟩ := ⟨l, hl, rfl, rfl, by simp⟩
  refine (h.over hr hown hg).sub fun r ⟨l', h1, h2, h3, h4⟩ => ?_
  by_cases ht : r.tag = n
  · subst ht
    obtain rfl := Option.some.inj (hl.symm.trans h1)
    refine .inl ?_
    obtain ⟨t, v, m, xs⟩ := r
    simp only [Nat.lt_irrefl, if_false, if_true, mks_succ] at h2 h3 h4 ⊢
    subst h2 h3 h4
    rfl
  · refine .inr ⟨⟨l', h1, h2, h3, ?_⟩, ht⟩
    rw [h4, if_neg ht, if_neg ht]
theorem p1_next (hmk : ∀ n i, (mk n i).length = sz) {n : Nat} {l : Lst} (h : Fam w base e sz (P1 Ls mk sz n l.n)) (hl : Ls[n]? = some l) : Fam w base e sz (P1 Ls mk sz (n + 1) 0) := by
  have hlen := (p1_row h hl).1
  refine h.sub fun r ⟨l', h1, h2, h3, h4⟩ => ⟨l', h1, h2, h3, ?_⟩
  rw [h4]
  by_cases ht : r.tag = n
  · subst ht
    obtain rfl := Option.some.inj (hl.symm.trans h1)
    simp only [Nat.lt_irrefl, if_false, if_true, Nat.lt_add_one]
    rw [List.length_append, mks_length hmk] at hlen
    rw [List.eq_nil_of_length_eq_zero (l := List.drop (l.n * sz) l.xs) (by omega), List.append_nil]
  · by_cases h5 : r.tag < n
    · rw [if_pos (by omega), if_pos h5]
    · rw [if_neg (by omega), if_neg h5, if_neg ht]
      by_cases h6 : r.tag = n + 1
      · rw [if_pos h6, mks_zero]; simp
      · rw [if_neg h6]
theorem p1_end {k : Nat} (h : Fam w base e sz (P1 Ls mk sz k 0)) (hk : k = Ls.length) : Fam w base e sz (P2 Ls mk [] []) := by
  refine h.sub fun r ⟨l, h1, h2⟩ => ?_
  have hlt : r.tag < Ls.length := (List.getElem?_eq_some_iff.1 h1).1
  rcases h2 with ⟨h2, h3, h4⟩ | ⟨h2, _⟩ | ⟨h2, _⟩
  · exact ⟨l, h1, h2, h3, by rw [if_pos (by omega)]; exact h4⟩
  · simp at h2
  · simp at h2
theorem p2_row {os ms : List Value} {n : Nat} {l : Lst} (h : Fam w base e sz (P2 Ls mk os ms)) (hl : Ls[n]? = some l) : w.ownsRow base e sz l.v l.n (mks mk n l.n) :=
  h.1 ⟨n, l.v, l.n, mks mk n l.n⟩ ⟨l, hl, .inl ⟨rfl, rfl, rfl⟩⟩
theorem p2_one {os ms : List Value} {n : Nat} {l : Lst} {v : Value} (h : Fam w base e sz (P2 Ls mk os ms)) (hl : Ls[n]? = some l) (ho : os[n]? = some v) : w.ownsRow base e sz v (l.n + 1) (mks mk n (l.n + 1)) :=
  h.1 ⟨n, v, l.n + 1, mks mk n (l.n + 1)⟩ ⟨l, hl, .inr (.inl ⟨ho, rfl, rfl⟩)⟩
theorem p2_more {os ms : List Value} {n : Nat} {l : Lst} {v : Value} (h : Fam w base e sz (P2 Ls mk os ms)) (hl : Ls[n]? = some l) (ho : ms[n]? = some v) : w.ownsRow base e sz v (l.n + 70) (mks mk n (l.n + 70)) :=
  h.1 ⟨n, v, l.n + 70, mks mk n (l.n + 70)⟩ ⟨l, hl, .inr (.inr ⟨ho, rfl, rfl⟩)⟩
theorem p2_first {os ms : List Value} {n : Nat} {l : Lst} (h : Fam w base e sz (P2 Ls mk os ms)) (hl : Ls[n]? = some l) : Fam w base e sz (P2in Ls mk os ms n l.v l.n) := by
  refine h.sub fun r hr => ?_
  rcases hr with hr | rfl
  · exact hr
  · exact ⟨l, hl, .inl ⟨rfl, rfl, rfl⟩⟩
theorem p2_cur {os ms : List Value} {n m : Nat} {v : Value} (h : Fam w base e sz (P2in Ls mk os ms n v m)) : w.ownsRow base e sz v m (mks mk n m) :=
  h.1 ⟨n, v, m, mks mk n m⟩ (.inr rfl)
theorem p2_app {os ms : List Value} {n m : Nat} {l : Lst} {v v' : Value} (h : Fam w base e sz (P2in Ls mk os ms n v m)) (hl : Ls[n]? = some l) (hms : ms.length ≤ n) (hos : os.length ≤ n ∨ l.n + 1 ≤ m) (hm : l.n ≤ m)
    (hown : w'.ownsRow base e sz v' (m + 1) (mks mk n m ++ mk n m)) (hw : Went w w' e v v' (m * sz)) : Fam w' base e sz (P2in Ls mk os ms n v' (m + 1)) := by
  have hr : P2in Ls mk os ms n v m ⟨n, v, m, mks mk n m⟩ := .inr rfl
  refine (h.append hr (fun r' hr' ht => ?_) hown hw).sub fun r hr' => ?_
  · rcases hr' with ⟨l', h1, h2⟩ | rfl
    · simp only at ht
      rw [ht] at h1 h2
      obtain rfl := Option.some.inj (hl.symm.trans h1)
      rcases h2 with ⟨_, h3, _⟩ | ⟨h2, h3, _⟩ | ⟨h2, h3, _⟩
      · simp only; omega
      · have := (List.getElem?_eq_some_iff.1 h2).1
        simp only; omega
      · have := (List.getElem?_eq_some_iff.1 h2).1
        omega
    · exact Nat.le_refl _
  · rcases hr' with hr' | rfl
    · exact .inr (.inl hr')
    · exact .inl (by rw [mks_succ])
theorem p2_keep1 {os ms : List Value} {n : Nat} {l : Lst} {v : Value} (h : Fam w base e sz (P2in Ls mk os ms n v (l.n + 1))) (hl : Ls[n]? = some l) (ho : os.length = n) : Fam w base e sz (P2in Ls mk (os ++ [v]) ms n v (l.n + 1)) := by
  refine h.sub fun r hr => ?_
  rcases hr with ⟨l', h1, h2⟩ | rfl
  · rcases h2 with h2 | ⟨h2, h3, h4⟩ | h2
    · exact .inl ⟨l', h1, .inl h2⟩
    · by_cases hlt : r.tag < os.length
      · rw [List.getElem?_append_left hlt] at h2
        exact .inl ⟨l', h1, .inr (.inl ⟨h2, h3, h4⟩)⟩
      · rw [List.getElem?_append_right (by omega)] at h2
        have h0 : r.tag - os.length = 0 := by
          have := (List.getElem?_eq_some_iff.1 h2).1
          simpa using this
        rw [h0] at h2
        have ht : r.tag = n := by omega
        rw [ht] at h1 h4
        obtain rfl := Option.some.inj (hl.symm.trans h1)
        obtain ⟨t, rv, rn, rxs⟩ := r
        simp only [List.getElem?_cons_zero, Option.some.injEq] at h2 h3 h4 ht
        subst h2 h3 h4 ht
        exact .inr rfl
    · exact .inl ⟨l', h1, .inr (.inr h2)⟩
  · exact .inr rfl
theorem p2_keep70 {os ms : List Value} {n : Nat} {l : Lst} {v : Value} (h : Fam w base e sz (P2in Ls mk os ms n v (l.n + 70))) (hl : Ls[n]? = some l) (ho : ms.length = n) : Fam w base e sz (P2 Ls mk os (ms ++ [v])) := by
  refine h.sub fun r hr => ?_
  obtain ⟨l', h1, h2⟩ := hr
  rcases h2 with h2 | h2 | ⟨h2, h3, h4⟩
  · exact .inl ⟨l', h1, .inl h2⟩
  · exact .inl ⟨l', h1, .inr (.inl h2)⟩
  · by_cases hlt : r.tag < ms.length
    · rw [List.getElem?_append_left hlt] at h2
      exact .inl ⟨l', h1, .inr (.inr ⟨h2, h3, h4⟩)⟩
    · rw [List.getElem?_append_right (by omega)] at h2
      have h0 : r.tag - ms.length = 0 := by
        have := (List.getElem?_eq_some_iff.1 h2).1
        simpa using this
      rw [h0] at h2
      have ht : r.tag = n := by omega
      rw [ht] at h1 h4
      obtain rfl := Option.some.inj (hl.symm.trans h1)
      obtain ⟨t, rv, rn, rxs⟩ := r
      simp only [List.getElem?_cons_zero, Option.some.injEq] at h2 h3 h4 ht
      subst h2 h3 h4 ht
      exact .inr rfl
theorem Fam.kept_all {R : Rw → Prop} {row : Option Nat} (h : Fam w base e sz R) (hg : w.grownBy w' row) (hne : ∀ g, row = some g → ∀ cur, w.heap[g]? ≠ some (.cells cur e (0, 0))) : Fam w' base e sz R := by
  refine h.kept hg fun r hr => ?_
  cases hv : r.v.ownBlock with
  | none => exact .inl rfl
  | some g =>
    refine .inr fun hh => ?_
    obtain ⟨cur, hc⟩ := ownsRow.block_e (h.1 r hr) hv
    exact hne g hh.symm cur hc
theorem Fam.drewN {R : Rw → Prop} (h : Fam w base e sz R) (n : Nat) : Fam (w.drewN n) base e sz R := h
theorem Fam.below {R : Rw → Prop} (h : Fam w base e sz R) (hb : Below w.heap.size w w') : Fam w' base e sz R :=
  h.kept_all (row := none) ⟨hb.os, hb.tape, hb.output, hb.size, fun k hk _ => hb.block k hk⟩ (fun g hg => by cases hg)
theorem Fam.alloc {R : Rw → Prop} (h : Fam w base e sz R) (o : Obj) : Fam (w.alloc o) base e sz R :=
  h.kept_all (World.grownBy_alloc w o none) (fun g hg => by cases hg)
/-- What an append to a row of another element type leaves. -/
theorem Fam.far {R : Rw → Prop} {e2 : TypeId} {base2 sz2 n2 : Nat} {v2 : Value} {xs2 : List Value} (h : Fam w base e sz R) (h2 : w.ownsRow base2 e2 sz2 v2 n2 xs2) (hg : w.grownBy w' v2.ownBlock) (he : e2 ≠ e) : Fam w' base e sz R := by
  refine h.kept_all hg fun g hv cur hc => ?_
  obtain ⟨c2, h4⟩ := ownsRow.block_e h2 hv
  rw [hc] at h4
  simp only [Option.some.injEq, Obj.cells.injEq] at h4
  exact he h4.2.1.symm
/-- Two rows that go on growing. -/
def Two (v5 : Value) (n : Nat) (os : List Value) (v6 : Value) (m : Nat) (ms : List Value) : Rw → Prop := fun r => r = ⟨1, v5, n, os⟩ ∨ r = ⟨2, v6, m, ms⟩
theorem two_nil (w : World) (base : Nat) (e : TypeId) : Fam w base e 1 (Two (.slice none 0 0) 0 [] (.slice none 0 0) 0 []) := by
  refine ⟨fun r hr => ?_, fun r hr r' _ _ => ?_⟩
  · rcases hr with rfl | rfl <;> exact World.ownsRow_nil _ _ _ _
  · rcases hr with rfl | rfl <;> exact .inl rfl
section
variable {v5 v6 v' : Value} {n m : Nat} {os ms xs' : List Value}
theorem two_l (h : Fam w base e 1 (Two v5 n os v6 m ms)) : w.ownsRow base e 1 v5 n os := h.1 ⟨1, v5, n, os⟩ (.inl rfl)
theorem two_r (h : Fam w base e 1 (Two v5 n os v6 m ms)) : w.ownsRow base e 1 v6 m ms := h.1 ⟨2, v6, m, ms⟩ (.inr rfl)
theorem two_app_l (h : Fam w base e 1 (Two v5 n os v6 m ms)) {n' : Nat} (hown : w'.ownsRow base e 1 v' n' xs') (hw : Went w w' e v5 v' (n * 1)) : Fam w' base e 1 (Two v' n' xs' v6 m ms) := by
  refine (h.append (r := ⟨1, v5, n, os⟩) (.inl rfl) (fun r' hr' ht => ?_) hown hw).sub fun r hr => ?_
  · rcases hr' with rfl | rfl
    · exact Nat.le_refl _
    · simp at ht
  · rcases hr with rfl | rfl
    · exact .inl rfl
    · exact .inr (.inr rfl)
theorem two_app_r (h : Fam w base e 1 (Two v5 n os v6 m ms)) {n' : Nat} (hown : w'.ownsRow base e 1 v' n' xs') (hw : Went w w' e v6 v' (m * 1)) : Fam w' base e 1 (Two v5 n os v' n' xs') := by
  refine (h.append (r := ⟨2, v6, m, ms⟩) (.inr rfl) (fun r' hr' ht => ?_) hown hw).sub fun r hr => ?_
  · rcases hr' with rfl | rfl
    · simp at ht
    · exact Nat.le_refl _
  · rcases hr with rfl | rfl
    · exact .inr (.inl rfl)
    · exact .inl rfl
end
end
theorem row_at {w : World} {hb ho n : Nat} {vs : List Value} {v : Value} (h : RdV w hb ho vs) (hl : vs[n]? = some v) : w.cell? ⟨hb, ho + n, none⟩ = some v := by
  rw [h.2 n (List.getElem?_eq_some_iff.1 hl).1, List.getD_eq_getElem?_getD, hl]
  rfl
theorem own_addr {w : World} {base : Nat} {e : TypeId} {sz : Nat} {v : Value} {n : Nat} {xs : List Value} (h : w.ownsRow base e sz v n xs) (hn : 0 < n) : ∃ g cap, v = .slice (some ⟨g, 0, none⟩) n cap ∧ base ≤ g ∧ n ≤ cap ∧ ∃ cur, w.heap[g]? = some (.cells cur e (0, 0)) := by
  rcases h.2 with ⟨rfl, rfl⟩ | ⟨g, cap, cur, rfl, hb, hgg, hnc, _⟩
  · omega
  · exact ⟨g, cap, rfl, hb, hnc, cur, hgg⟩
theorem own_cell {w : World} {base : Nat} {e : TypeId} {g n cap i : Nat} {vs : List Value} {v : Value} (h : w.ownsRow base e 1 (.slice (some ⟨g, 0, none⟩) n cap) n vs) (hl : vs[i]? = some v) : w.cell? ⟨g, i, none⟩ = some v := by
  have h1 := (List.getElem?_eq_some_iff.1 hl).1
  have h2 := h.1
  rw [h.cellAt i (by omega), hl]
/-- What the last part reads of the n-th list, in every world that has kept the rows. -/
structure Look (wr : World) (base : Nat) (E : TypeId) (sz : Nat) (mk : Nat → Nat → List Value) (gb off k hc hb h5 h6 n ln gm cm go co cl : Nat) (al : Option Addr) : Prop where
  bag : wr.cell? ⟨gb, off, none⟩ = some (.slice (some ⟨hb, 0, none⟩) k hc)
  hdr : wr.cell? ⟨hb, n, none⟩ = some (.slice al ln cl)
  one : wr.cell? ⟨h5, n, none⟩ = some (.slice (some ⟨go, 0, none⟩) (ln + 1) co)
  more : wr.cell? ⟨h6, n, none⟩ = some (.slice (some ⟨gm, 0, none⟩) (ln + 70) cm)
  m : wr.ownsRow base E sz (.slice (some ⟨gm, 0, none⟩) (ln + 70) cm) (ln + 70) (mks mk n (ln + 70))
  o : wr.ownsRow base E sz (.slice (some ⟨go, 0, none⟩) (ln + 1) co) (ln + 1) (mks mk n (ln + 1))
  r : wr.ownsRow base E sz (.slice al ln cl) ln (mks mk n ln)
theorem look_use {Q : Prop} {w wr : World} {base base2 : Nat} {E S : TypeId} {sz : Nat} {mk : Nat → Nat → List Value} {gb off k hc c5 c6 n : Nat} {HA a5 a6 : Option Addr} {Ls : List Lst} {os ms : List Value}
    (hBag : ∀ wr, Only E base w wr → wr.cell? ⟨gb, off, none⟩ = some (.slice HA k hc) ∧ RdS wr HA 1 k (Ls.map Lst.v)) (hho : w.ownsRow base2 S 1 (.slice HA k hc) k (Ls.map Lst.v)) (hk : Ls.length = k) (hos : os.length = k) (hms : ms.length = k) (hn : n < k)
    (hlen : ∀ l ∈ Ls, l.n ≤ 1099511627776) (hfam : Fam wr base E sz (P2 Ls mk os ms)) (htwo : Fam wr w.heap.size S 1 (Two (.slice a5 k c5) k os (.slice a6 k c6) k ms))
    (h : ∀ hb h5 h6 ln gm cm go co cl al, HA = some ⟨hb, 0, none⟩ → a5 = some ⟨h5, 0, none⟩ → a6 = some ⟨h6, 0, none⟩ → ln ≤ 1099511627776 →
      (∀ wr, Only E base w wr → Fam wr base E sz (P2 Ls mk os ms) → Fam wr w.heap.size S 1 (Two (.slice a5 k c5) k os (.slice a6 k c6) k ms) → Look wr base E sz mk gb off k hc hb h5 h6 n ln gm cm go co cl al) → Q) : Q := by
  obtain ⟨l, hl⟩ : ∃ l, Ls[n]? = some l := ⟨_, List.getElem?_eq_getElem (by omega)⟩
  obtain ⟨mv, hmv⟩ : ∃ mv, ms[n]? = some mv := ⟨_, List.getElem?_eq_getElem (by omega)⟩
  obtain ⟨ov, hov⟩ : ∃ ov, os[n]? = some ov := ⟨_, List.getElem?_eq_getElem (by omega)⟩
  have hln := hlen l (List.mem_of_getElem? hl)
  obtain ⟨gm, cm, hmv2, _⟩ := own_addr (p2_more hfam hl hmv) (by omega)
  obtain ⟨go, co, hov2, _⟩ := own_addr (p2_one hfam hl hov) (by omega)
  obtain ⟨al, cl, hv⟩ := own_shape (p2_row hfam hl)
  obtain ⟨hb, _, hA, _⟩ := own_addr hho (by omega)
  obtain ⟨h5, _, h5e, _⟩ := own_addr (two_l htwo) (by omega)
  obtain ⟨h6, _, h6e, _⟩ := own_addr (two_r htwo) (by omega)
  simp only [Value.slice.injEq, true_and] at hA h5e h6e
  obtain ⟨rfl, rfl⟩ := hA
  obtain ⟨rfl, rfl⟩ := h5e
  obtain ⟨rfl, rfl⟩ := h6e
  refine h hb h5 h6 l.n gm cm go co cl al rfl rfl rfl hln fun wr hO hfam htwo => ?_
  obtain ⟨q1, q2⟩ := hBag wr hO
  obtain ⟨hb', ho', hHA', hrv⟩ := q2.2 (by omega)
  simp only [Option.some.injEq, Addr.mk.injEq, and_true] at hHA'
  obtain ⟨rfl, rfl⟩ := hHA'
  have hlm : (Ls.map Lst.v)[n]? = some l.v := by rw [List.getElem?_map, hl]; rfl
  have q3 := row_at hrv hlm
  rw [hv, Nat.zero_add] at q3
  have q6 := own_cell (two_r htwo) hmv
  have q5 := own_cell (two_l htwo) hov
  rw [hmv2] at q6
  rw [hov2] at q5
  have q7 := p2_more hfam hl hmv
  rw [hmv2] at q7
  have q8 := p2_one hfam hl hov
  rw [hov2] at q8
  have q9 := p2_row hfam hl
  rw [hv] at q9
  exact ⟨q1, q3, q5, q6, q7, q8, q9⟩
theorem mark_cell1 {w : World} {base : Nat} {e : TypeId} {g cap m n j : Nat} {mk : Nat → Nat → List Value} {u : Value} (hmk : ∀ n i, (mk n i).length = 1) (h : w.ownsRow base e 1 (.slice (some ⟨g, 0, none⟩) m cap) m (mks mk n m)) (hj : j < m) (hu : mk n j = [u]) : w.cell? ⟨g, j, none⟩ = some u := by
  have h1 := mks_at hmk n m j 0 hj (by omega)
  rw [Nat.mul_one, Nat.add_zero] at h1
  rw [h.cellAt j (by omega), h1, hu]
  rfl
theorem own_use {Q : Prop} {w : World} {base : Nat} {e : TypeId} {sz n cl : Nat} {al : Option Addr} {xs : List Value} (h : w.ownsRow base e sz (.slice al n cl) n xs) (hn : 0 < n) (hQ : ∀ g, al = some ⟨g, 0, none⟩ → Q) : Q := by
  obtain ⟨g, c, he, _⟩ := own_addr h hn
  simp only [Value.slice.injEq, true_and] at he
  exact hQ g he.1
end Go.Proofs.YtofgmijmhpmabaaGreatDoor.G
