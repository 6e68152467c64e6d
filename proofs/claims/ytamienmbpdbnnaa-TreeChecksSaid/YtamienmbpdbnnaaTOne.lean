/- The contract of tableaulaw09.one: the pack of a card with one ability. -/
import Derived.Test.YtamienmbpdbnnaaTCheck
import Derived.Laws.AppendOwnNone
import Derived.Deep.Cut
namespace Go.Proofs.Ytamienmbpdbnnaa.T
open Go Go.RowKit
set_option linter.unusedVariables false
set_option linter.unusedSimpArgs false
/-- A slice of nodes as an append's source. -/
def Src (w : World) (A : Option Addr) (n c : Nat) (t : List Nd) : Prop := (A = none ∧ n = 0 ∧ c = 0 ∧ t = []) ∨ ((∃ ad, A = some ad) ∧ t.length = n ∧ G.RdS w A 7 n (flat t))
theorem Src.len {w : World} {A : Option Addr} {n c : Nat} {t : List Nd} (h : Src w A n c t) : t.length = n := by
  rcases h with ⟨_, h, _, rfl⟩ | ⟨_, h, _⟩
  · exact h.symm
  · exact h
theorem Src.rd {w : World} {A : Option Addr} {n c : Nat} {t : List Nd} (h : Src w A n c t) : G.RdS w A 7 n (flat t) := by
  rcases h with ⟨rfl, rfl, rfl, rfl⟩ | ⟨_, _, h⟩
  · exact G.RdS.nil _
  · exact h
theorem Src.below {w w' : World} {A : Option Addr} {n c : Nat} {t : List Nd} (h : Src w A n c t) (hb : Below w.heap.size w w') : Src w' A n c t := by
  rcases h with h | ⟨h1, hl, h⟩
  · exact .inl h
  · exact .inr ⟨h1, hl, h.below hb⟩
theorem Src.of_own {w : World} {base n c : Nat} {A : Option Addr} {t : List Nd} (h : w.ownsRow base 33 7 (.slice A n c) n (flat t)) (hl : t.length = n) : Src w A n c t := by
  rcases h.2 with ⟨hv, h0⟩ | ⟨g, cap, cur, hv, hb, hg, _⟩
  · simp only [Value.slice.injEq] at hv
    obtain ⟨rfl, rfl, rfl⟩ := hv
    exact .inl ⟨rfl, rfl, rfl, List.eq_nil_of_length_eq_zero hl⟩
  · have h2 := hv
    simp only [Value.slice.injEq] at h2
    obtain ⟨rfl, _, rfl⟩ := h2
    exact .inr ⟨⟨_, rfl⟩, hl, G.RdS.of_own h⟩
theorem wpList_append_src {ops : Array Oper} {rest : List Oper} {o : Oper} {a : Act} {w : World} {Q : Exit → Act → World → Prop} (hgd : o.guard = none) (s x : Operand)
    (ho : o.op = .call { callee := .builtin .append, args := #[s, x], argTypes := #[22, 22] })
    (base : Nat) (v : Value) (n : Nat) (xs : List Value) (hs : a.eval s = v) (hown : w.ownsRow base 33 7 v n xs)
    (A : Option Addr) (m c : Nat) (t : List Nd) (hx : a.eval x = .slice A m c) (hsrc : Src w A m c t) (hnm : n + m ≤ 1099511627776) (hbase : base ≤ w.heap.size)
    (h : ∀ v' w', w'.ownsRow base 33 7 v' (n + m) (xs ++ flat t) → w.grownBy w' v.ownBlock → wpList Try.prog ops Q rest (a.put o.dst v') w') : wpList Try.prog ops Q (o :: rest) a w := by
  obtain ⟨i0, hi, hz0, hz1, hz2⟩ := info_parts infoNd
  rcases hsrc with ⟨rfl, rfl, rfl, rfl⟩ | ⟨⟨ad, rfl⟩, hl, hr⟩
  · exact wpList_append_own_none hgd s x 22 ho base 33 i0 7 Try.underlying22 hi v n xs hs hown hx (h v w (by simpa [flat] using hown) (World.grownBy.refl _ _))
  · have hnews : ∀ j u, (flat t)[j]? = some u → w.cell? (ad.add j) = some u := by
      intro j u hu
      have hj := (List.getElem?_eq_some_iff.1 hu).1
      rw [flat_length, hl] at hj
      obtain ⟨b, off, e, hr2⟩ := hr.2 (by omega)
      obtain rfl := Option.some.inj e
      rw [Addr.add_lit, hr2.2 j (by rw [flat_length, hl]; exact hj), List.getD_eq_getElem?_getD, hu]
      rfl
    exact wpList_append_own w hgd s x 22 ho base 33 i0 _ 7 56 Try.underlying22 hi hz0 hz1 hz2 rfl (by decide) v n xs hs hown ad m c (flat t) hx (by rw [flat_length, hl])
      hnews (nd_one _) (by unfold maxLen; omega) (by omega) hbase (fun v' w' h1 h2 _ => h v' w' h1 h2)
def packNd : Nd := ⟨1, 0, 0, 0, ⟨#[]⟩, 0, 1⟩
def cardNd : Nd := ⟨2, 0, 0, 0, ⟨#[97]⟩, 0, 1⟩
def onNd (k : Int) : Nd := ⟨7, 0, 0, 0, ⟨#[]⟩, 0, k⟩
def oneL (when_ block : List Nd) : List Nd := [packNd, cardNd, onNd (if when_ = [] then 1 else 2)] ++ when_ ++ block
def OnePost (when_ block : List Nd) (w : World) (e : Ending) (w' : World) : Prop := ∃ A c, e = .returned (.slice A (3 + when_.length + block.length) c) ∧ w'.ownsRow w.heap.size 33 7 (.slice A (3 + when_.length + block.length) c) (3 + when_.length + block.length) (flat (oneL when_ block)) ∧ Below w.heap.size w w'
set_option maxRecDepth 100000 in
set_option maxHeartbeats 4000000 in
theorem one_any (A B : Option Addr) (n c m d : Nat) (s t : List Nd) (w : World) (hs : Src w A n c s) (ht : Src w B m d t) (hn : n ≤ 16777216) (hm : m ≤ 16777216) :
    Calls Try.prog 24 #[.slice A n c, .slice B m d] w (OnePost s t w) := by
  have HSL := Lib.hid hs.len
  have HTL := Lib.hid ht.len
  have HS := Lib.hid hs
  have HT := Lib.hid ht
  clear hs ht
  have key : ∀ k : Int, k = (if s = [] then 1 else 2) → ∀ w1, w1 = w.alloc (.cells #[.int .i8 1, .int .i8 0, .int .i64 0, .int .i64 0, .string ⟨#[]⟩, .int .i64 0, .int .i64 1, .int .i8 2, .int .i8 0, .int .i64 0, .int .i64 0, .string ⟨#[97]⟩, .int .i64 0, .int .i64 1, .int .i8 7, .int .i8 0, .int .i64 0, .int .i64 0, .string ⟨#[]⟩, .int .i64 0, .int .i64 k] 33) →
      w1.ownsRow w.heap.size 33 7 (.slice (some ⟨w.heap.size, 0, none⟩) 3 3) 3 (flat [packNd, cardNd, onNd k]) ∧ Below w.heap.size w w1 ∧ w.heap.size ≤ w1.heap.size := by
    rintro k hk w1 rfl
    exact ⟨(G.Blk.new w 33 _).own (base := w.heap.size) (sz := 7) (n := 3) (cap := 3) (Nat.le_refl _) (Nat.le_refl _) (by simp [maxLen]) rfl, G.bl_alloc (Below.refl _ _) _, by simp⟩
  have KEY := Lib.hid key
  have h30 : 0 < 3 + n := by omega
  have h31 : 3 + n ≤ 1099511627776 := by omega
  have h32 : 3 + n + m ≤ 1099511627776 := by omega
  clear key
  unfold OnePost
  by_cases h0 : n = 0
  all_goals
    have hk : ∃ k : Int, k = (if s = [] then 1 else 2) ∧ (n = 0 → k = 1) ∧ (¬ n = 0 → k = 2) := ⟨_, rfl, fun h => if_pos (List.eq_nil_of_length_eq_zero (by rw [HSL.out]; exact h)), fun h => if_neg (fun e => h (by rw [← HSL.out, e]; rfl))⟩
    obtain ⟨k, hk0, hk1, hk2⟩ := hk
    have HK0 := Lib.hid hk0
    first
      | (have hkk := hk1 h0; subst hkk; subst h0)
      | (have hkk := hk2 h0; subst hkk; have hn0 : (0 : Int) < n := (by omega); clear h0)
    clear hk0 hk1 hk2
    go_enter Try.func24, Try.ntmps24
    go_upto_region 5 with (fail)
    obtain ⟨ho1, hb1, hz1⟩ := KEY.out _ HK0.out _ rfl
    generalize hw1 : w.alloc (Obj.cells _ _) = w1 at ho1 hb1 hz1 ⊢
    have HO1 := Lib.hid ho1
    have HB1 := Lib.hid hb1
    have HS1 := Lib.hid (HS.out.below hb1)
    clear hw1 ho1 hb1
    obtain ⟨g0, hg0⟩ : ∃ g0, g0 = w.heap.size := ⟨_, rfl⟩
    rw [← hg0] at HO1 hz1 ⊢
    have HG0 := Lib.hid hg0
    clear hg0
    go_wp2_with (first
      | (at_builtin; refine wpList_append_src rfl (.tmp 15) (.tmp 16) rfl g0 _ 3 (flat [packNd, cardNd, onNd _]) rfl HO1.out A _ c s rfl HS1.out h31 hz1 ?_; intro v2 w2 hown2 hg2; obtain ⟨g2, c2, hv2, _⟩ := G.own_addr hown2 h30; subst hv2; have HB2 := Lib.hid (show Below w.heap.size w w2 from bl_grown HB1.out (by rw [← HG0.out]; exact HO1.out) hg2); have HT2 := Lib.hid (HT.out.below HB2.out); have HO2 := Lib.hid hown2; have hz2 : g0 ≤ w2.heap.size := (by rw [HG0.out]; exact HB2.out.size); clear hown2 hg2)
      | (at_builtin; refine wpList_append_src rfl (.tmp 18) (.tmp 19) rfl g0 _ _ _ rfl HO2.out B m d t rfl HT2.out h32 hz2 ?_; intro v3 w3 hown3 hg3; obtain ⟨g3, c3, hv3, _⟩ := G.own_addr hown3 (by omega); subst hv3; have HB3 := Lib.hid (show Below w.heap.size w w3 from bl_grown HB2.out (by rw [← HG0.out]; exact HO2.out) hg3); have HO3 := Lib.hid hown3; clear hown3 hg3))
    go_ret
    refine ⟨some ⟨g3, 0, none⟩, c3, ?_, ?_, HB3.out⟩
    · rw [HSL.out, HTL.out]
      rfl
    · rw [HSL.out, HTL.out, ← HG0.out]
      have h := HO3.out
      have e : ∀ k : Int, k = (if s = [] then 1 else 2) → flat [packNd, cardNd, onNd k] ++ flat s ++ flat t = flat (oneL s t) := by
        intro k hk
        unfold oneL
        rw [← hk]
        simp [flat]
      rw [← e _ HK0.out]
      exact h
end Go.Proofs.Ytamienmbpdbnnaa.T
