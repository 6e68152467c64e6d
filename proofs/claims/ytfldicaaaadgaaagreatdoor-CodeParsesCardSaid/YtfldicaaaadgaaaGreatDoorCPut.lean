/- The contract of code.Put where it refuses nothing. -/
import Derived.Test.YtfldicaaaadgaaaGreatDoorCOpdAny
import Derived.Test.YtfldicaaaadgaaaGreatDoorCAll
import Derived.Laws.AppendOwnNone
namespace Go.Proofs.YtfldicaaaadgaaaGreatDoor.Code
open Go.RowKit
set_option linter.unusedVariables false
set_option linter.unusedSimpArgs false
/-- Put refuses none of these, the first one standing at p. -/
def PutOk : Int → List Ins → Prop
  | _, [] => True
  | p, x :: l => x.at_ = p ∧ RightI x ∧ p + sizeOf x.op ≤ 65535 ∧ PutOk (p + sizeOf x.op) l
def bytesOf (l : List Ins) : List Int := l.flatMap encOf
theorem bytesOf_snoc (l : List Ins) (x : Ins) : bytesOf (l ++ [x]) = bytesOf l ++ (x.op :: opBytes x) := by simp [bytesOf, encOf]
theorem info5 : (Tryz.prog.info? 5).map (fun i => (i.zero, i.size, i.bytes)) = some (some (.int .u8 0), 1, 1) := by kernel_rfl
def u8s (l : List Int) : List Value := l.map (Value.int .u8)
theorem u8s_one (l : List Int) : ∀ u ∈ u8s l, u.oneCell' = true := ints_oneCell _ _
theorem u8s_length (l : List Int) : (u8s l).length = l.length := by simp [u8s]
/-- A row of cells that may be read. -/
def RdV (w : World) (b off : Nat) (xs : List Value) : Prop := b < w.heap.size ∧ ∀ j, j < xs.length → w.cell? ⟨b, off + j, none⟩ = some (xs.getD j undef)
theorem RdV.below {w w' : World} {b off : Nat} {xs : List Value} (h : RdV w b off xs) (hb : Below w.heap.size w w') : RdV w' b off xs :=
  ⟨Nat.lt_of_lt_of_le h.1 hb.size, fun j hj => (hb.cell (p := ⟨b, off + j, none⟩) h.1).trans (h.2 j hj)⟩
theorem flat_get (pre : List Ins) (x : Ins) (suf : List Ins) (j : Nat) (hj : j < 5) : (flat (pre ++ x :: suf)).getD (pre.length * 5 + j) undef = x.cells.getD j undef := by
  have h1 : flat (pre ++ x :: suf) = flat pre ++ (x.cells ++ flat suf) := by simp [flat]
  rw [h1, List.getD_eq_getElem?_getD, List.getD_eq_getElem?_getD, List.getElem?_append_right (by rw [flat_length]; omega), flat_length, List.getElem?_append_left (by simp [Ins.cells]; omega)]
  congr 2; omega
theorem RdV.ins {w : World} {b off : Nat} {pre suf : List Ins} {x : Ins} (h : RdV w b off (flat (pre ++ x :: suf))) :
    w.cell? ⟨b, off + pre.length * 5, none⟩ = some (.int .i64 x.at_) ∧ w.cell? ⟨b, off + pre.length * 5 + 1, none⟩ = some (.int .u8 x.op) ∧ w.cell? ⟨b, off + pre.length * 5 + 2, none⟩ = some (.int .i64 x.a) ∧
      w.cell? ⟨b, off + pre.length * 5 + 3, none⟩ = some (.int .i64 x.b) ∧ w.cell? ⟨b, off + pre.length * 5 + 4, none⟩ = some (.int .i64 x.c) := by
  have hl : (flat (pre ++ x :: suf)).length = pre.length * 5 + 5 + suf.length * 5 := by rw [flat_length]; simp; omega
  have key : ∀ j, j < 5 → w.cell? ⟨b, off + pre.length * 5 + j, none⟩ = some (x.cells.getD j undef) := fun j hj => by
    have := h.2 (pre.length * 5 + j) (by omega)
    rw [flat_get pre x suf j hj] at this
    rw [Nat.add_assoc]
    exact this
  exact ⟨key 0 (by omega), key 1 (by omega), key 2 (by omega), key 3 (by omega), key 4 (by omega)⟩
theorem own_shape {w : World} {base : Nat} {e : TypeId} {size : Nat} {v : Value} {n : Nat} {xs : List Value} (h : w.ownsRow base e size v n xs) : ∃ ao cap, v = .slice ao n cap := by
  rcases h.2 with ⟨rfl, rfl⟩ | ⟨g, cap, cur, rfl, _⟩
  · exact ⟨_, _, rfl⟩
  · exact ⟨_, _, rfl⟩
/-- 'append(s, x...)', both the call's own rows (or nil). -/
theorem wpList_append_rows {P : Program} {w : World} {ops : Array Oper} {rest : List Oper} {o : Oper} {a : Act} {Q : Exit → Act → World → Prop} (hgd : o.guard = none) (s x : Operand) (t : TypeId)
    (ho : o.op = .call { callee := .builtin .append, args := #[s, x], argTypes := #[t, t] })
    (base base2 : Nat) (e : TypeId) (i : TypeInfo) (z : Value) (size bytes : Nat) (ht : P.underlying t = some (.slice e)) (hi : P.info? e = some i) (hz : i.zero = some z)
    (hsize : i.size = size) (hby : i.bytes = bytes) (hzs : z.cells.size = size) (hsz : 0 < size)
    (v : Value) (n : Nat) (xs : List Value) (hs : a.eval s = v) (hown : w.ownsRow base e size v n xs)
    (vx : Value) (m : Nat) (news : List Value) (hx : a.eval x = vx) (hownx : w.ownsRow base2 e size vx m news) (h1 : ∀ u ∈ news, u.oneCell' = true)
    (h63 : n + m ≤ maxLen) (hbytes : (n + m) * bytes ≤ 140737488355328) (hbase : base ≤ w.heap.size)
    (h : ∀ v' w', w'.ownsRow base e size v' (n + m) (xs ++ news) → w.grownBy w' v.ownBlock → wpList P ops Q rest (a.put o.dst v') w') : wpList P ops Q (o :: rest) a w := by
  rcases hownx.2 with ⟨rfl, rfl⟩ | ⟨g, cap2, cur, rfl, hbg, hgg, hn2, hc2, hcs2, htake2⟩
  · have hn : news = [] := List.eq_nil_of_length_eq_zero (by simpa using hownx.1)
    subst hn
    exact wpList_append_own_none hgd s x t ho base e i size ht hi v n xs hs hown hx (h v w (by simpa using hown) (World.grownBy.refl w _))
  · exact wpList_append_own w hgd s x t ho base e i z size bytes ht hi hz hsize hby hzs hsz v n xs hs hown ⟨g, 0, none⟩ m cap2 news hx hownx.1 (hownx.cells rfl) h1 h63 hbytes hbase (fun v' w' h2 h3 _ => h v' w' h2 h3)
theorem own_apart {w : World} {base2 : Nat} {e : TypeId} {size : Nat} {v1 v2 : Value} {n : Nat} {xs : List Value} (h : w.ownsRow base2 e size v2 n xs) (hlt : ∀ r, v1.ownBlock = some r → r < base2) : v2.ownBlock = none ∨ v2.ownBlock ≠ v1.ownBlock := by
  cases hv : v2.ownBlock with
  | none => exact .inl rfl
  | some g =>
    refine .inr fun e => ?_
    have h1 := (h.lt g hv).1
    have h2 := hlt g e.symm
    omega
def PutPost (l : List Ins) (w : World) (e : Ending) (w' : World) : Prop :=
  ∃ v, e = .returned (.tuple #[v, .int .i64 0, .int .i64 0]) ∧ w'.ownsRow w.heap.size 5 1 v (bytesOf l).length (u8s (bytesOf l)) ∧ Below w.heap.size w w'
set_option maxRecDepth 100000 in
set_option maxHeartbeats 4000000 in
theorem Put_ok (b off cap : Nat) (l : List Ins) (w : World) (hm : l.length * 64 ≤ 140737488351232) (hr : RdV w b off (flat l)) (hz : PutOk 0 l) :
    Calls Tryz.prog 12 #[.slice (some ⟨b, off, none⟩) l.length cap] w (PutPost l w) := by
  obtain ⟨i0, hi, hz0, hz1, hz2⟩ := info_parts info5
  obtain ⟨n, hn⟩ : ∃ n, n = l.length := ⟨_, rfl⟩
  have HN := Lib.hid hn
  rw [← hn]
  rw [← hn] at hm
  clear hn
  go_enter Tryz.func12, Tryz.ntmps12
  go_wp2
  go_loopw [5, 13] (fun v i wr => ∃ pre suf, l = pre ++ suf ∧ i = .int .i64 (pre.length : Nat) ∧ Below w.heap.size w wr ∧ PutOk (bytesOf pre).length suf ∧ wr.ownsRow w.heap.size 5 1 v (bytesOf pre).length (u8s (bytesOf pre)))
    (fun _ i _ => n - (intOf i).toNat)
  case atStart => exact ⟨[], l, rfl, rfl, Below.refl _ _, hz, World.ownsRow_nil _ _ _ _⟩
  case round =>
    obtain ⟨pre, suf, hl, rfl, hbel, hok, hown⟩ := hrel
    cases suf with
    | nil =>
      have hnl : ¬ (pre.length : Nat) < n := by rw [HN.out, hl]; simp
      simp only [List.append_nil] at hl
      have HL := Lib.hid hl
      clear hl hr hok
      go_wp2
      go_ret3
      exact ⟨_, rfl, by rw [HL.out]; exact hown, hbel⟩
    | cons x suf =>
      have hrw := (hr.below hbel)
      rw [hl] at hrw
      have hins := hrw.ins
      have hlt : (pre.length : Nat) < n := by rw [HN.out, hl]; simp
      obtain ⟨q1, q2, q3, q4⟩ := hok
      have hkind := q2.kind
      have hlen := q2.len
      have hop := opd_any x (kindOf x.op) (hk := rfl) (h := q2)
      obtain ⟨k, hk⟩ : ∃ k, k = kindOf x.op := ⟨_, rfl⟩
      rw [← hk] at hkind hop
      have HB := Lib.hid (show bytesOf (pre ++ [x]) = bytesOf pre ++ (x.op :: opBytes x) from bytesOf_snoc pre x)
      obtain ⟨m, hm1⟩ : ∃ m, m = (bytesOf pre).length := ⟨_, rfl⟩
      obtain ⟨nb, hnb⟩ : ∃ nb, nb = (opBytes x).length := ⟨_, rfl⟩
      have hsz : ((m : Int) + 1 + nb) ≤ 65535 := by
        have := hlen.1
        unfold encOf at this
        simp only [List.length_cons] at this
        omega
      have Q4 := Lib.hid q4
      have HK := Lib.hid hk
      have HM := Lib.hid hm1
      have HNB := Lib.hid hnb
      have HL := Lib.hid hl
      have HLEN := Lib.hid hlen.1
      have q5 : x.at_ = (m : Int) := by rw [q1, hm1]
      have hnb4 : nb ≤ 4 := by rw [hnb]; exact hlen.2
      rw [← hm1] at hown
      clear hrw hr hl q1 q2 q4 q3 hk hm1 hnb hlen hz
      obtain ⟨xa, xo, a, b', c⟩ := x
      simp only at q5 hins
      subst q5
      unfold Ins.val at hop
      simp only at hop
      have HOP := Lib.hid hop
      clear hop
      obtain ⟨ao, cp, rfl⟩ := own_shape hown
      obtain ⟨c0, c1, c2, c3, c4⟩ := hins
      go_wp2_with (first
        | (go_at_call 40; refine (of_yes _ k _ HK.out.symm hkind).mono ?_; rintro e w1 ⟨rfl, hb1⟩; have hz1' := hb1.size; simp only [World.size_alloc] at hz1'; have hzz : wr.heap.size < w1.heap.size := (by omega); have hB1 := Bl.tr (Bl.al (Below.refl _ _) _) hb1; have hC1 := (bcell hb1).1; have e0 := hC1 wr.heap.size 0 (by simp); have e1 := hC1 wr.heap.size 1 (by simp); have e2 := hC1 wr.heap.size 2 (by simp); have e3 := hC1 wr.heap.size 3 (by simp); have e4 := hC1 wr.heap.size 4 (by simp); clear hC1; simp only [World.cell?_alloc_at, List.getElem?_toArray] at e0 e1 e2 e3 e4))
      refine (HOP.out _).mono ?_
      rintro e w2 ⟨vo, rfl, hb2, ho⟩
      have hov := ho rfl
      clear ho
      have hz2' := hb2.size
      simp only [World.size_alloc] at hz2'
      have hB2 := Bl.tr (Bl.al hB1 _) hb2
      have hown2 := Bl.own hown hB2
      have f0 : w2.cell? ⟨wr.heap.size, 0, none⟩ = some (.int .i64 m) := (hb2.cell (p := ⟨wr.heap.size, 0, none⟩) (by simp; omega)).trans ((World.cell?_alloc_past _ _ _ (by omega)).trans e0)
      have f1 : w2.cell? ⟨wr.heap.size, 1, none⟩ = some (.int .u8 xo) := (hb2.cell (p := ⟨wr.heap.size, 1, none⟩) (by simp; omega)).trans ((World.cell?_alloc_past _ _ _ (by omega)).trans e1)
      have HROW := Lib.hid (show ∀ r, (Value.slice ao m cp).ownBlock = some r → r < wr.heap.size from fun r hr => (hown.lt r hr).2)
      rw [List.length_map, ← HNB.out] at hov
      clear e0 e1 e2 e3 e4 hb1 hB1 c0 c1 c2 c3 c4
      have hb3 := Bl.tr hbel hB2
      have hzw : w.heap.size ≤ w2.heap.size := hb3.size
      clear hb2
      obtain ⟨ao2, cp2, rfl⟩ := own_shape hov
      go_wp2_with (first
        | (at_builtin; refine wpList_append_own _ rfl (.tmp 52) (.tmp 55) 58 rfl w.heap.size 5 i0 (.int .u8 0) 1 1 Tryz.underlying58 hi hz0 hz1 hz2 rfl (by decide) _ _ _ rfl (hown2.alloc _) ⟨w2.heap.size, 0, none⟩ 1 1 [.int .u8 xo] rfl rfl (cells_new _ [.int .u8 xo] _ _ rfl) (u8s_one [xo]) (by unfold maxLen; omega) (by omega) (by simp; omega) ?_; intro v3 w3 hown3 hg3 _q; have hz3 := hg3.size; simp only [World.size_alloc] at hz3; have ho3 := (hov.alloc (.cells #[.int .u8 xo] 5)).kept hg3 (own_apart hov (fun r hr => Nat.lt_of_lt_of_le (HROW.out r hr) (by simp; omega))))
        | (at_builtin; refine wpList_append_rows rfl (.tmp 56) (.tmp 57) 58 rfl w.heap.size _ 5 i0 (.int .u8 0) 1 1 Tryz.underlying58 hi hz0 hz1 hz2 rfl (by decide) _ _ _ rfl hown3 _ _ _ rfl ho3 (u8s_one _) (by unfold maxLen; omega) (by omega) (by omega) ?_; intro v4 w4 hown4 hg4))
      have e1 : (bytesOf (pre ++ [⟨m, xo, a, b', c⟩])).length = m + 1 + nb := by
        have h1 := HM.out
        have h2 := HNB.out
        rw [HB.out, List.length_append, List.length_cons]
        omega
      go_roundw
      case rel =>
        refine ⟨pre ++ [⟨m, xo, a, b', c⟩], suf, by rw [HL.out]; simp, by simp, Bl.grown (Bl.grown (Bl.al hb3 _) (hown2.alloc _) hg3) hown3 hg4, ?_, ?_⟩
        · have e2 : (((bytesOf (pre ++ [⟨m, xo, a, b', c⟩])).length : Nat) : Int) = ((bytesOf pre).length : Nat) + sizeOf xo := by
            rw [HB.out, List.length_append]
            have := HLEN.out
            unfold encOf at this
            simp only at this ⊢
            omega
          rw [e2]
          exact Q4.out
        · rw [e1, HB.out]
          simpa [u8s] using hown4
      case measure => simp [intOf]; omega
end Go.Proofs.YtfldicaaaadgaaaGreatDoor.Code
