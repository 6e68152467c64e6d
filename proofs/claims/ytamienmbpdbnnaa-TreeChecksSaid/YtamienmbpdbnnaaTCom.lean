/- Common words for the statements on trees: copies, appended nodes, what Check answers. -/
import Derived.Test.YtamienmbpdbnnaaTOpen
namespace Go.Proofs.Ytamienmbpdbnnaa.T
open Go Go.RowKit
set_option linter.unusedVariables false
set_option linter.unusedSimpArgs false
theorem copy_any (A : Option Addr) (n c : Nat) (t : List Nd) (w : World) (hn : t.length = n) (hm : n ≤ 1099511627776) (hr : G.RdS w A 7 n (flat t)) :
    Calls Try.prog 19 #[.slice A n c] w fun e w' => ∃ B d, e = .returned (.slice B n d) ∧ w'.ownsRow w.heap.size 33 7 (.slice B n d) n (flat t) ∧ Below w.heap.size w w' :=
  (copyNodes_any A n c t w hn hm hr).mono fun e w' ⟨v, he, ho, hb⟩ => by
    rw [hn] at ho
    obtain ⟨B, d, rfl⟩ := G.own_shape ho
    exact ⟨B, d, he, ho, hb⟩
def Small (l : List Nd) : Prop := ∀ x ∈ l, x.text.size ≤ 16777216 ∧ x.kids ≤ 9223372036854775807
theorem Small.app {a b : List Nd} (h : Small a) (k : Small b) : Small (a ++ b) := fun x hx => (List.mem_append.1 hx).elim (h x) (k x)
theorem depth_nn (t : List Nd) : 0 ≤ depthOf t := by
  rcases shapeOf_bd t with h | h
  · obtain ⟨x, k, he, hok⟩ := shape_tree.1 h
    rw [depthOf_yes he hok]
    have := openT_ge x k 0
    have := inc_nn x.op
    omega
  · rw [depthOf_no h.1]
    exact Int.le_refl _
theorem checkE_cases (t : List Nd) : (checkE t = 24) ∨ (checkE t = 23) ∨ (checkE t = 0 ∧ shapeOf t = -1 ∧ depthOf t ≤ 64) := by
  unfold checkE
  rcases shapeOf_bd t with h | h
  · rw [if_neg (by omega)]
    by_cases h2 : 64 < depthOf t
    · rw [if_pos h2]; exact .inr (.inl rfl)
    · rw [if_neg h2]; exact .inr (.inr ⟨rfl, h, by omega⟩)
  · rw [if_pos h.1]; exact .inl rfl
theorem wpList_app_new {ops : Array Oper} {rest : List Oper} {o : Oper} {a : Act} {w : World} {Q : Exit → Act → World → Prop} (hgd : o.guard = none) (s x : Operand)
    (ho : o.op = .call { callee := .builtin .append, args := #[s, x], argTypes := #[22, 22] })
    (base : Nat) (v : Value) (n : Nat) (l : List Nd) (hs : a.eval s = v) (hown : w.ownsRow base 33 7 v n (flat l))
    (m c : Nat) (g : Nat) (t : List Nd) (cs : Array Value) (hx : a.eval x = .slice (some ⟨g, 0, none⟩) m c) (hl : t.length = m) (hblk : G.Blk w g 33 cs) (hcs : cs.toList = flat t) (hnm : n + m ≤ 1099511627776) (hbase : base ≤ w.heap.size)
    (h : ∀ v' w', w'.ownsRow base 33 7 v' (n + m) (flat (l ++ t)) → Below base w w' → wpList Try.prog ops Q rest (a.put o.dst v') w') : wpList Try.prog ops Q (o :: rest) a w := by
  refine wpList_append_src hgd s x ho base v n (flat l) hs hown (some ⟨g, 0, none⟩) m c t hx (.inr ⟨⟨_, rfl⟩, hl, ?_⟩) hnm hbase (fun v' w' h1 h2 => ?_)
  · have h3 := hblk.rdV
    rw [hcs] at h3
    exact G.RdS.of_rdV h3 (by rw [flat_length, hl])
  · refine h v' w' (by rw [flat, List.flatMap_append]; exact h1) ((Below.refl _ _).grown h2 hbase fun k hk => (hown.lt k hk).1)
theorem bl_base {a w w' : World} (h : Below a.heap.size a w) (hb : Below a.heap.size w w') : Below a.heap.size a w' := h.trans hb
end Go.Proofs.Ytamienmbpdbnnaa.T
