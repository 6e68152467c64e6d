/- The contracts of the reference's open, placed, row, chain. -/
import Derived.Test.YtamienmbpdbnnaaTRefA
import Derived.Test.YtamienmbpdbnnaaTTasks
import Derived.Test.YtamienmbpdbnnaaTKids
import Derived.Deep.LoopGhost
import Derived.Deep.CutRange
import Derived.Deep.CutBlock
import Derived.Deep.RegionHeld3
namespace Go.Proofs.Ytamienmbpdbnnaa.T
open Go Go.RowKit
set_option linter.unusedVariables false
set_option linter.unusedSimpArgs false
def IPost (D : Int) (w : World) (e : Ending) (w' : World) : Prop := e = .returned (.int .i64 D) ∧ Below w.heap.size w w'
def OpenC (t : List Nd) (A : Option Addr) (n cap : Nat) (x : Nd) (k : Fo) : Prop :=
  ∀ (p : Nat) (d : Int) (W : World), G.RdS W A 7 n (flat t) → StandsAt t p (.cons x k .nil) → Good (.cons x k .nil) → 0 ≤ d → d + 3 * (1 + k.size : Nat) ≤ 3 * n →
    Calls Try.prog 35 #[.slice A n cap, .int .i64 p, .int .i64 d] W (IPost (openT x k d) W)
def PlacedC (t : List Nd) (A : Option Addr) (n cap : Nat) (x : Nd) (k : Fo) : Prop :=
  ∀ (p : Nat) (d wt : Int) (W : World), G.RdS W A 7 n (flat t) → StandsAt t p (.cons x k .nil) → Good (.cons x k .nil) → 0 ≤ d → d + 1 + 3 * (1 + k.size : Nat) ≤ 3 * n → 1 ≤ wt → wt ≤ 8 →
    Calls Try.prog 49 #[.slice A n cap, .int .i64 p, .int .i64 d, .int .i64 wt] W (IPost (openT x k (d + lowI x.op wt)) W)
/-- The cell of a node's Op. -/
theorem op_cell {t : List Nd} {A : Option Addr} {n p : Nat} {W : World} {x : Nd} {k r : Fo} (hn : t.length = n) (hr : G.RdS W A 7 n (flat t)) (hs : StandsAt t p (.cons x k r)) : ∃ b off, A = some ⟨b, off, none⟩ ∧ W.cell? ⟨b, off + p * 7, none⟩ = some (.int .i8 x.op) ∧ p < n := by
  have hg := hs.get
  obtain ⟨b, off, rfl, hv⟩ := hr.2 (by omega)
  exact ⟨b, off, rfl, (nd_at hv hg.1 hg.2).1, by omega⟩
set_option maxRecDepth 100000 in
set_option maxHeartbeats 4000000 in
theorem placed_of {t : List Nd} {A : Option Addr} {n cap : Nat} {x : Nd} {k : Fo} (hn : t.length = n) (hm : n ≤ 16777216) (h : OpenC t A n cap x k) : PlacedC t A n cap x k := by
  intro p d wt W hr hst hg hd hdn hw1 hw8
  obtain ⟨b, off, rfl, hc, hp⟩ := op_cell hn hr hst
  have hp1 : (p : Int) < n := by omega
  have hp0 : (0 : Int) ≤ p := by omega
  have hdb : d ≤ 50331648 := by omega
  have HO := Lib.hid (fun (q : Int) (h0 : 0 ≤ q) (h1 : q ≤ d + 1) => h p q W hr hst hg h0 (by omega))
  have HX := Lib.hid (fun W => refExpr_any x.op W)
  have HK := Lib.hid (fun W => refRank_any x.op W)
  have hrk := rank_ge x.op
  have HL := Lib.hid (show lowI x.op wt = if exprB x.op && decide (rankOf x.op < wt) then 1 else 0 from rfl)
  unfold IPost at HO ⊢
  obtain ⟨L, hL⟩ : ∃ L, L = lowI x.op wt := ⟨_, rfl⟩
  rw [← hL] at HL ⊢
  obtain ⟨xo, hxo⟩ : ∃ xo, xo = x.op := ⟨_, rfl⟩
  rw [← hxo] at hc HX HK HL hrk
  obtain ⟨rk, hrkk⟩ : ∃ rk, rk = rankOf xo := ⟨_, rfl⟩
  rw [← hrkk] at HK HL hrk
  obtain ⟨B, hB⟩ : ∃ B, B = exprB xo := ⟨_, rfl⟩
  rw [← hB] at HX HL
  obtain ⟨F, hF⟩ : ∃ F, F = openT x k := ⟨_, rfl⟩
  rw [← hF] at HO ⊢
  clear hr hst hg hn hL hxo hrkk hB hF
  cases B with
  | false =>
    have HL0 := Lib.hid (show L = 0 from HL.out)
    go_enter Try.func49, Try.ntmps49
    go_wp2_with (go_at_call 47; refine (HX.out _).mono ?_; rintro e wq ⟨rfl, rfl⟩)
    refine (HO.out d hd (by omega)).mono ?_
    rintro e w1 ⟨rfl, hb⟩
    have HB := Lib.hid hb
    clear hb
    go_wp2_with fail
    go_ret
    exact ⟨ret_int (by rw [HL0.out, Int.add_zero]), HB.out⟩
  | true =>
    by_cases hlt : rk < wt
    · have HL0 := Lib.hid (show L = 1 by rw [HL.out, decide_eq_true hlt]; rfl)
      go_enter Try.func49, Try.ntmps49
      go_wp2_with (first
        | (go_at_call 47; refine (HX.out _).mono ?_; rintro e wq ⟨rfl, rfl⟩)
        | (go_at_call 46; refine (HK.out _).mono ?_; rintro e wq ⟨rfl, rfl⟩))
      refine (HO.out (d + 1) (by omega) (by omega)).mono ?_
      rintro e w1 ⟨rfl, hb⟩
      have HB := Lib.hid hb
      clear hb
      go_wp2_with fail
      go_ret
      exact ⟨ret_int (by rw [HL0.out]), HB.out⟩
    · have HL0 := Lib.hid (show L = 0 by rw [HL.out, decide_eq_false hlt]; rfl)
      go_enter Try.func49, Try.ntmps49
      go_wp2_with (first
        | (go_at_call 47; refine (HX.out _).mono ?_; rintro e wq ⟨rfl, rfl⟩)
        | (go_at_call 46; refine (HK.out _).mono ?_; rintro e wq ⟨rfl, rfl⟩))
      refine (HO.out d hd (by omega)).mono ?_
      rintro e w1 ⟨rfl, hb⟩
      have HB := Lib.hid hb
      clear hb
      go_wp2_with fail
      go_ret
      exact ⟨ret_int (by rw [HL0.out, Int.add_zero]), HB.out⟩
set_option maxRecDepth 100000 in
set_option maxHeartbeats 4000000 in
theorem chain_of {t : List Nd} {A : Option Addr} {n cap : Nat} {x : Nd} {k : Fo} (hn : t.length = n) (hm : n ≤ 16777216) (hP : ∀ y ky, ky.size < k.size → PlacedC t A n cap y ky) (h49 : x.op = 49) (p : Nat) (d : Int) (W : World) (hr : G.RdS W A 7 n (flat t))
    (hst : StandsAt t p (.cons x k .nil)) (hg : Good (.cons x k .nil)) (hd : 0 ≤ d) (hdn : d + 3 * (1 + k.size : Nat) ≤ 3 * n) :
    Calls Try.prog 45 #[.slice A n cap, .int .i64 p, .int .i64 d] W (IPost (chainF k d 1) W) := by
  obtain ⟨R, hR⟩ : ∃ R, R = chainF k d 1 := ⟨_, rfl⟩
  rw [← hR]
  have HR := Lib.hid (show chainF (.cons x k .nil) d 0 = R by rw [chain_step _ _ _ _ h49, hR]; rfl)
  have HRD := Lib.hid hr
  have HN := Lib.hid hn
  have HP := Lib.hid hP
  have HST := Lib.hid hst
  have HG := Lib.hid hg
  have H49 := Lib.hid h49
  have hdb : d ≤ 50331648 := by omega
  have hp := (hst.get).1
  unfold IPost
  clear hr hn hP hst hg hR h49
  go_enter Try.func45, Try.ntmps45
  go_wp2_with fail
  go_loop [1, 7] (fun s1 s7 => ∃ (q m : Nat) (y : Nd) (ky : Fo), s1 = .int .i64 q ∧ s7 = .int .i64 m ∧ Hid (StandsAt t q (.cons y ky .nil) ∧ Good (.cons y ky .nil) ∧ chainF (.cons y ky .nil) d m = R) ∧ m + ky.size ≤ k.size ∧ Hid ((m = 0 ∧ y.op = 49) ∨ (1 ≤ m ∧ ky.size < k.size))) (fun s1 _ => n - (intOf s1).toNat)
  case atStart => exact ⟨p, 0, x, k, rfl, rfl, Lib.hid ⟨HST.out, HG.out, HR.out⟩, by omega, Lib.hid (.inl ⟨rfl, H49.out⟩)⟩
  case round =>
    obtain ⟨q, m, y, ky, rfl, rfl, HS, hsz, HM⟩ := hrel
    obtain ⟨b, off, hA, hc, hq⟩ := op_cell HN.out HRD.out HS.out.1
    subst hA
    have hq1 : (q : Int) < n := by omega
    have hq0 : (0 : Int) ≤ q := by omega
    have hm0 : (0 : Int) ≤ m := by omega
    have hmb : (m : Int) ≤ 16777216 := by omega
    obtain ⟨yo, hyo⟩ : ∃ yo, yo = y.op := ⟨_, rfl⟩
    rw [← hyo] at hc
    have HYO := Lib.hid hyo
    clear hyo
    by_cases h49 : yo = 49
    · obtain ⟨z, kz, hk⟩ := one_of (HS.out.2.1.2.2.1 (by rw [← HYO.out]; exact h49))
      have HNX := Lib.hid (show StandsAt t (q + 1) (.cons z kz .nil) ∧ Good (.cons z kz .nil) ∧ chainF (.cons z kz .nil) d ((m + 1 : Nat) : Int) = R by
        refine ⟨hk ▸ HS.out.1.kids, hk ▸ HS.out.2.1.2.2.2.1, ?_⟩
        have h := chain_step (x := y) ky .nil d m (by rw [← HYO.out]; exact h49)
        rw [HS.out.2.2, hk] at h
        exact h.symm)
      have hkz : ky.size = 1 + kz.size := by rw [hk]; simp [Fo.size]
      subst h49
      clear hk
      go_wp2_with fail
      go_round
      case rel => exact ⟨q + 1, m + 1, z, kz, by go_num, by go_num, HNX, by omega, Lib.hid (.inr ⟨by omega, by omega⟩)⟩
      case measure => simp [intOf]; omega
    · have h1 : 1 ≤ m ∧ ky.size < k.size := by
        rcases HM.out with ⟨_, h⟩ | h
        · exact absurd (HYO.out.trans h) h49
        · exact h
      have HRR := Lib.hid (show R = max (d + m - 1) (openT y ky (d + lowI y.op 8)) by rw [← HS.out.2.2, chain_end _ _ _ _ (by rw [← HYO.out]; exact h49)])
      have HPL := Lib.hid (HP.out y ky h1.2 q d 8 W HRD.out HS.out.1 HS.out.2.1 hd (by omega) (by omega) (by omega))
      unfold IPost at HPL
      generalize openT y ky (d + lowI y.op 8) = V at HRR HPL
      have h2 := ne_b h49
      clear h49
      go_wp2_with (go_at_call 49; refine HPL.out.mono ?_; rintro e w1 ⟨rfl, hb⟩; have HB := Lib.hid hb; clear hb)
      go_ret
      exact ⟨ret_int (by rw [HRR.out]), HB.out⟩
theorem kidsL_two {t : List Nd} {p : Nat} {x l q : Nd} {kl kq : Fo} (hst : StandsAt t p (.cons x (.cons l kl (.cons q kq .nil)) .nil)) (hg : Good (.cons x (.cons l kl (.cons q kq .nil)) .nil)) :
    kidsL t (p : Int) = [((p + 1 : Nat) : Int), ((p + 1 + 1 + kl.size : Nat) : Int)] := by
  have hb := stands_behind hst hg.1 (Good.wf hg.2.2.2.1)
  have hget := hst.get
  have hk2 : x.kids = 2 := hg.1
  have h1 := stands_behind hst.kids hg.2.2.2.1.1 (Good.wf hg.2.2.2.1.2.2.2.1)
  have s0 : skipTo t (p + 1) 0 = ((p + 1 : Nat) : Int) := skip_zero (by omega)
  have s1 : skipTo t (p + 1) 1 = ((p + 1 + 1 + kl.size : Nat) : Int) := by
    rw [skip_step (q := 0) (by omega), s0, h1]
  unfold kidsL
  rw [if_neg (by omega), Int.toNat_natCast, hget.2, hk2]
  show [skipTo t (p + 1) 0, skipTo t (p + 1) 1] = _
  rw [s0, s1]
def RowPost (op : Int) (k : Fo) (d : Int) (w : World) (e : Ending) (w' : World) : Prop := e = .returned (.tuple #[.int .i64 (rowF op k d).1, .int .i64 (rowF op k d).2]) ∧ Below w.heap.size w w'
theorem rowF_marks : ∀ (op : Int) (f : Fo) (d : Int), Good f → f.len = 2 → rowB op = true → 1 ≤ (rowF op f d).2 ∧ (rowF op f d).2 ≤ f.size := by
  intro op f
  induction f generalizing op with
  | nil => intro d _ h; simp [Fo.len] at h
  | cons l kl r ih1 _ =>
    intro d hg h2 hop
    obtain ⟨l', kl', q, kq, e⟩ := two_of h2
    simp only [Fo.cons.injEq] at e
    obtain ⟨rfl, rfl, rfl⟩ := e
    rw [rowF_two]
    have hs : (Fo.cons l kl (.cons q kq .nil)).size = 1 + kl.size + (1 + kq.size + 0) := rfl
    by_cases hr : rankOf l.op = rankOf op
    · rw [if_pos hr]
      have hb := rowB_of_rank hr hop
      have := ih1 l.op d hg.2.2.2.1 (hg.2.1 hb) hb
      simp only
      omega
    · rw [if_neg hr]
      simp only
      omega
theorem cell_keep2 {w w' : World} {p : Addr} {v : Value} (hb : Below w.heap.size w w') (h : w.cell? p = some v) : w'.cell? p = some v := (hb.cell (World.block_lt_of_cell? _ _ h)).trans h
def RKeep (b off gb go p : Nat) (xo K : Int) (w5 : World) (w' : World) : Prop := w'.cell? ⟨b, off + p * 7, none⟩ = some (.int .i8 xo) ∧ w'.cell? ⟨gb, go + 1, none⟩ = some (.int .i64 K) ∧ Below w5.heap.size w5 w'
set_option maxRecDepth 100000 in
set_option maxHeartbeats 8000000 in
theorem row_of {t : List Nd} {A : Option Addr} {n cap : Nat} (hn : t.length = n) (hm : n ≤ 16777216) : ∀ (N : Nat) (x : Nd) (k : Fo) (p : Nat) (d : Int) (W : World), k.size ≤ N → (∀ y ky, ky.size < k.size → PlacedC t A n cap y ky) → rowB x.op = true → G.RdS W A 7 n (flat t) →
    StandsAt t p (.cons x k .nil) → Good (.cons x k .nil) → 0 ≤ d → d + 3 * (1 + k.size : Nat) ≤ 3 * n →
    Calls Try.prog 48 #[.slice A n cap, .int .i64 p, .int .i64 d] W (RowPost x.op k d W) := by
  intro N
  induction N with
  | zero =>
    intro x k p d W hk _ hb _ _ hg
    obtain ⟨l, kl, q, kq, rfl⟩ := two_of (hg.2.1 hb)
    simp [Fo.size] at hk
  | succ N ih =>
    intro x k p d W hk hP hb hr hst hg hd hdn
    obtain ⟨l, kl, q, kq, rfl⟩ := two_of (hg.2.1 hb)
    have hsz : (Fo.cons l kl (.cons q kq .nil)).size = 1 + kl.size + (1 + kq.size + 0) := rfl
    rw [hsz] at hk hdn
    have hkl := kidsL_two hst hg
    have gl : Good (.cons l kl .nil) := ⟨hg.2.2.2.1.1, hg.2.2.2.1.2.1, hg.2.2.2.1.2.2.1, hg.2.2.2.1.2.2.2.1, trivial⟩
    have gq : Good (.cons q kq .nil) := hg.2.2.2.1.2.2.2.2
    have sl := hst.kids.one
    have sq : StandsAt t (p + 1 + 1 + kl.size) (.cons q kq .nil) := hst.kids.rest
    obtain ⟨b, off, hA, hc, hp⟩ := op_cell hn hr hst
    obtain ⟨b', off', hA', hc', hp'⟩ := op_cell hn hr sl
    have hpq := sq.get.1
    rw [hA] at hA'
    obtain ⟨rfl, rfl⟩ : b = b' ∧ off = off' := by simpa using hA'
    subst hA
    have HKD := Lib.hid (refKids_any (some ⟨b, off, none⟩) n cap t p W hn hm hr)
    unfold KidsPost at HKD
    rw [hkl] at HKD
    have HRK := Lib.hid (fun W => refRank_any x.op W)
    have HRL := Lib.hid (fun W => refRank_any l.op W)
    have hrx := rank_ge x.op
    have hrl := rank_ge l.op
    have HW0 := Lib.hid (fun W => refWants_any x.op 0 (by omega) (.inl (by omega)) W)
    have HW1 := Lib.hid (fun W => refWants_any x.op 1 (by omega) (.inl (by omega)) W)
    have hw0 := wants_bd x.op 0
    have hw1 := wants_bd x.op 1
    have HRD := Lib.hid hr
    have HPQ := Lib.hid (fun (d' wt : Int) (W' : World) (h : Below W.heap.size W W') (h0 : 0 ≤ d') (h1 : d' ≤ d + kl.size) (h2 : 1 ≤ wt) (h3 : wt ≤ 8) => hP q kq (by rw [hsz]; omega) (p + 1 + 1 + kl.size) d' wt W' (hr.below h) sq gq h0 (by omega) h2 h3)
    have HPL := Lib.hid (fun (wt : Int) (W' : World) (h : Below W.heap.size W W') (h2 : 1 ≤ wt) (h3 : wt ≤ 8) => hP l kl (by rw [hsz]; omega) (p + 1) d wt W' (hr.below h) sl gl hd (by omega) h2 h3)
    have HROW := Lib.hid (fun (hrk : rankOf l.op = rankOf x.op) (W' : World) (h : Below W.heap.size W W') => ih l kl (p + 1) d W' (by omega) (fun y ky hy => hP y ky (by rw [hsz]; omega)) (rowB_of_rank hrk hb) (hr.below h) sl gl hd (by omega))
    have HMK := Lib.hid (fun (hrk : rankOf l.op = rankOf x.op) => rowF_marks l.op kl d gl.2.2.2.1 (gl.2.1 (rowB_of_rank hrk hb)) (rowB_of_rank hrk hb))
    have HF := Lib.hid (rowF_two x.op l kl q kq .nil d)
    have HGE := Lib.hid (rowF_ge l.op kl d)
    unfold RowPost at HROW ⊢
    unfold IPost at HPQ HPL
    obtain ⟨F, hF⟩ : ∃ F, F = rowF x.op (.cons l kl (.cons q kq .nil)) d := ⟨_, rfl⟩
    rw [← hF] at HF ⊢
    obtain ⟨P1, hP1⟩ : ∃ P1, P1 = p + 1 + 1 + kl.size := ⟨_, rfl⟩
    rw [← hP1] at HPQ HKD
    have hdb : d ≤ 50331648 := by omega
    have hp1 : (p : Int) < n := by omega
    have hp0 : (0 : Int) ≤ p := by omega
    have hp2 : (p : Int) + 1 < n := by omega
    have hP1n : (P1 : Int) < n := by omega
    have hP10 : (0 : Int) ≤ P1 := by omega
    have hkln : (kl.size : Int) ≤ 16777216 := by omega
    generalize openT q kq = VQ at HPQ HF
    generalize openT l kl = VL at HPL HF
    clear hkl gl gq sl sq hr hst hg hP hsz hn hF hP1 hA' hpq hk hb hp hp'
    generalize x.op = xo at *
    generalize l.op = lo at *
    generalize q.op = qo at *
    have key : ∀ (M m : Int) (W1 : World), Below W.heap.size W W1 → d ≤ M → 0 ≤ m → m ≤ kl.size → F = (max M (VQ (d + m + lowI qo (wantsOf xo 1))), m + 1) → True := fun _ _ _ _ _ _ _ _ => trivial
    clear key
    go_enter Try.func48, Try.ntmps48
    go_wp2_with fail
    refine HKD.out.mono ?_
    rintro e w1 ⟨v, rfl, ho, hb1⟩
    obtain ⟨a1, c1, rfl⟩ := G.own_shape ho
    have hlen : [((p + 1 : Nat) : Int), (P1 : Int)].length = 2 := rfl
    rw [hlen] at ho ⊢
    obtain ⟨g1, cc, he1, hg1, _⟩ := G.own_addr ho (by omega)
    simp only [Value.slice.injEq, true_and] at he1
    obtain ⟨rfl, rfl⟩ := he1
    have k0 : w1.cell? ⟨g1, 0, none⟩ = some (.int .i64 ((p + 1 : Nat) : Int)) := ho.cellAt 0 (by omega)
    have k1 : w1.cell? ⟨g1, 1, none⟩ = some (.int .i64 (P1 : Int)) := ho.cellAt 1 (by omega)
    rw [show ((p + 1 : Nat) : Int) = (p : Int) + 1 by omega] at k0
    have d0 := cell_keep2 hb1 hc
    have d1 := cell_keep2 hb1 hc'
    have HB1 := Lib.hid hb1
    clear ho hb1 hc hc' hlen
    go_wp2_with fail
    refine (HRK.out _).mono ?_
    rintro e wq ⟨rfl, rfl⟩
    go_wp2_with fail
    refine (HRL.out _).mono ?_
    rintro e wq ⟨rfl, rfl⟩
    have hwx : 1 ≤ wantsOf xo 0 ∧ wantsOf xo 0 ≤ 8 := hw0
    generalize wantsOf xo 0 = wt0 at HW0 hwx HF
    generalize wantsOf xo 1 = wt1 at HW1 hw1 HF
    generalize rowF lo kl d = F1 at HF HROW HMK HGE
    obtain ⟨m1, mk⟩ := F1
    simp only at HF HROW HMK HGE
    by_cases hrk : rankOf lo = rankOf xo
    · have HF2 := Lib.hid (show F = (max (max d m1) (VQ (d + mk + lowI qo wt1)), mk + 1) by rw [HF.out, if_pos hrk])
      have hmk := HMK.out hrk
      have HRW := Lib.hid (HROW.out hrk w1 HB1.out)
      have hm1 := HGE.out
      rw [hrk]
      clear HROW HMK HF HGE HPL HW0 HRK HRL hrx hrl
      go_wp2_with fail
      refine HRW.out.mono ?_
      rintro e w2 ⟨rfl, hb2⟩
      go_upto_region 11 with (fail)
      have d2 := cell_keep2 hb2 d0
      have k2 := cell_keep2 hb2 k1
      have HB2 := Lib.hid (G.bl_trans HB1.out hb2)
      clear hb2 d0 d1 k0 k1
      have hlq := low_nn qo wt1
      have ws1 : IntKind.i64.wrap (d + mk) = d + mk := IntWalk.i64_in _ (by omega)
      have ws2 : IntKind.i64.wrap (mk + 1) = mk + 1 := IntWalk.i64_in _ (by omega)
      have HPQ2 := Lib.hid (fun (W' : World) (h : Below W.heap.size W W') => HPQ.out (d + mk) wt1 W' h (by omega) (by omega) hw1.1 hw1.2)
      generalize VQ (d + mk + lowI qo wt1) = V at HPQ2 HF2
      clear hlq
      go_region_held3 (fun w' => w'.cell? ⟨b, off + p * 7, none⟩ = some (.int .i8 xo) ∧ w'.cell? ⟨g1, 1, none⟩ = some (.int .i64 P1) ∧ Below w2.heap.size w2 w') (first | exact ⟨d2, k2, (Below.refl _ _).drew⟩ | exact ⟨d3, k3, hb4⟩ | go_keep) ((first | (go_at_call 50; refine (HW1.out _).mono ?_; rintro e wq ⟨rfl, rfl⟩) | (go_at_call 49; refine (HPQ2.out _ HB2.out.drew).mono ?_; rintro e w3 ⟨rfl, hb3⟩; have hb4 : Below w2.heap.size w2 w3 := G.bl_trans (Below.refl _ _).drew hb3; have d3 := cell_keep2 hb4 d2; have k3 := cell_keep2 hb4 k2)))
      go_wp2_with fail
      go_ret2
      exact ⟨ret_ints (by rw [HF2.out, Int.max_assoc]) (by rw [HF2.out]), G.bl_trans HB2.out (show Below w2.heap.size w2 _ by assumption)⟩
    · have HF2 := Lib.hid (show F = (max (max d (VL (d + lowI lo wt0))) (VQ (d + 0 + lowI qo wt1)), 0 + 1) by rw [HF.out, if_neg hrk])
      have HPL2 := Lib.hid (fun (W' : World) (h : Below W.heap.size W W') => HPL.out wt0 W' h hwx.1 hwx.2)
      generalize VL (d + lowI lo wt0) = VV at HPL2 HF2
      have hrk1 := ne_b hrk
      clear HROW HMK HF HGE HPL HRK HRL hrx hrl hrk
      go_wp2_with fail
      refine (HW0.out _).mono ?_
      rintro e wq ⟨rfl, rfl⟩
      go_wp2_with fail
      refine (HPL2.out w1 HB1.out).mono ?_
      rintro e w2 ⟨rfl, hb2⟩
      go_upto_region 11 with (fail)
      have d2 := cell_keep2 hb2 d0
      have k2 := cell_keep2 hb2 k1
      have HB2 := Lib.hid (G.bl_trans HB1.out hb2)
      clear hb2 d0 d1 k0 k1
      have ws1 : IntKind.i64.wrap d = d := IntWalk.i64_in _ (by omega)
      have HPQ2 := Lib.hid (fun (W' : World) (h : Below W.heap.size W W') => HPQ.out (d + 0) wt1 W' h (by omega) (by omega) hw1.1 hw1.2)
      generalize VQ (d + 0 + lowI qo wt1) = V at HPQ2 HF2
      rw [Int.add_zero] at HPQ2
      go_region_held3 (fun w' => w'.cell? ⟨b, off + p * 7, none⟩ = some (.int .i8 xo) ∧ w'.cell? ⟨g1, 1, none⟩ = some (.int .i64 P1) ∧ Below w2.heap.size w2 w') (first | exact ⟨d2, k2, (Below.refl _ _).drew⟩ | exact ⟨d3, k3, hb4⟩ | go_keep) ((first | (go_at_call 50; refine (HW1.out _).mono ?_; rintro e wq ⟨rfl, rfl⟩) | (go_at_call 49; refine (HPQ2.out _ HB2.out.drew).mono ?_; rintro e w3 ⟨rfl, hb3⟩; have hb4 : Below w2.heap.size w2 w3 := G.bl_trans (Below.refl _ _).drew hb3; have d3 := cell_keep2 hb4 d2; have k3 := cell_keep2 hb4 k2)))
      go_wp2_with fail
      go_ret2
      exact ⟨ret_ints (by rw [HF2.out, Int.max_assoc]) (by rw [HF2.out]; rfl), G.bl_trans HB2.out (show Below w2.heap.size w2 _ by assumption)⟩
theorem inc_row {op : Int} (h : rowB op = true) : incI op = 0 := by
  rw [rowB_iff] at h
  unfold incI incB
  rw [if_neg]
  unfold rankOf at h
  simp
  repeat' split at h
  all_goals omega
set_option maxRecDepth 100000 in
set_option maxHeartbeats 8000000 in
theorem open_of {t : List Nd} {A : Option Addr} {n cap : Nat} (hn : t.length = n) (hm : n ≤ 16777216) (x : Nd) (k : Fo) (hPO : ∀ y ky, ky.size < k.size → OpenC t A n cap y ky) : OpenC t A n cap x k := by
  intro p d W hr hst hg hd hdn
  have hP : ∀ y ky, ky.size < k.size → PlacedC t A n cap y ky := fun y ky h => placed_of hn hm (hPO y ky h)
  have hget := hst.get
  obtain ⟨b, off, hA, _, hp⟩ := op_cell hn hr hst
  subst hA
  have hrv := hr.2 (by omega)
  obtain ⟨b', off', hA', hv⟩ := hrv
  obtain ⟨rfl, rfl⟩ : b = b' ∧ off = off' := by simpa using hA'
  obtain ⟨c0, c1, c2, c3, c4, c5, c6⟩ := nd_at hv hget.1 hget.2
  have HKD := Lib.hid (fun W' (h : Below W.heap.size W W') => refKids_any (some ⟨b, off, none⟩) n cap t p W' hn hm (hr.below h))
  unfold KidsPost at HKD
  have HRD := Lib.hid hr
  have HN := Lib.hid hn
  have HST := Lib.hid hst
  have HG := Lib.hid hg
  have HPL := Lib.hid hP
  have HOP := Lib.hid hPO
  have HCH := Lib.hid (fun (h49 : x.op = 49) (W' : World) (h : Below W.heap.size W W') => chain_of hn hm hP h49 p d W' (hr.below h) hst hg hd hdn)
  have HRW := Lib.hid (fun (hb : rowB x.op = true) (W' : World) (h : Below W.heap.size W W') => row_of hn hm k.size x k p d W' (Nat.le_refl _) hP hb (hr.below h) hst hg hd hdn)
  have HRK := Lib.hid (fun W => refRank_any x.op W)
  have HEX := Lib.hid (fun W => refExpr_any x.op W)
  unfold IPost at HCH ⊢
  unfold RowPost at HRW
  obtain ⟨R, hR⟩ : ∃ R, R = openT x k d := ⟨_, rfl⟩
  rw [← hR]
  have HR := Lib.hid hR
  have hpn : (p : Int) < n := by omega
  have hp0 : (0 : Int) ≤ p := by omega
  have hdb : d ≤ 50331648 := by omega
  have hbw := hv.1
  have HX := Lib.hid (show x = x from rfl)
  clear hv hA' hr hst hg hP hPO hget hn hR
  obtain ⟨xo, xk, xn, xm, xt, xa, xq⟩ := x
  simp only at c0 c1 c2 c3 c4 c5 c6 HCH HRW HRK HEX
  go_enter Try.func35, Try.ntmps35
  go_wp2_with fail
  obtain ⟨nb, hnb⟩ : ∃ nb, nb = W.heap.size := ⟨_, rfl⟩
  obtain ⟨w1, hw1⟩ : ∃ w1, w1 = W.alloc (.cells #[.int .i8 xo, .int .i8 xk, .int .i64 xn, .int .i64 xm, .string xt, .int .i64 xa, .int .i64 xq] 33) := ⟨_, rfl⟩
  have HB1 := Lib.hid (show Below W.heap.size W w1 by rw [hw1]; exact G.bl_alloc (Below.refl _ _) _)
  have HK1 := Lib.hid (show G.Blk w1 nb 33 #[.int .i8 xo, .int .i8 xk, .int .i64 xn, .int .i64 xm, .string xt, .int .i64 xa, .int .i64 xq] by rw [hw1, hnb]; exact G.Blk.new _ _ _)
  rw [← hw1, ← hnb]
  clear hw1 hnb c0 c1 c2 c3 c4 c5 c6
  refine (HKD.out w1 HB1.out).mono ?_
  rintro e w2 ⟨v, rfl, ho, hb2⟩
  have HB2 := Lib.hid (G.bl_trans HB1.out hb2)
  have HK2 := Lib.hid (HK1.out.below hb2 HK1.out.lt)
  have HRO := Lib.hid ho
  have h0 : w2.cell? ⟨nb, 0, none⟩ = some (.int .i8 xo) := HK2.out.cell 0
  clear ho hb2
  obtain ⟨di, hdi⟩ : ∃ di, di = incI xo := ⟨_, rfl⟩
  have hdi2 := inc_nn xo
  rw [← hdi] at hdi2
  have HDI := Lib.hid hdi
  go_upto_block 0 with (fail)
  go_cut [2] from 15 to 133 (fun s2 wx => s2 = .int .i64 (d + di) ∧ w2 = wx)
  case first =>
    --[
    as_aux_lemma =>
      have HDI2 := Lib.hid hdi
      clear hdi
      by_cases h1 : xo = 10
      · have HI := Lib.hid (show di = 1 by rw [HDI2.out, h1]; decide)
        subst h1
        go_wp2_with fail
        go_meet
        case rel => exact ⟨by rw [HI.out], rfl⟩
      · have g1 := ne_b h1
        by_cases h2 : xo = 19
        · have HI := Lib.hid (show di = 1 by rw [HDI2.out, h2]; decide)
          clear h1
          subst h2
          go_wp2_with fail
          go_meet
          case rel => exact ⟨by rw [HI.out], rfl⟩
        · have g2 := ne_b h2
          by_cases h3 : xo = 50
          · have HI := Lib.hid (show di = 1 by rw [HDI2.out, h3]; decide)
            clear h1 h2
            subst h3
            go_wp2_with fail
            go_meet
            case rel => exact ⟨by rw [HI.out], rfl⟩
          · have g3 := ne_b h3
            by_cases h4 : xo = 34
            · have HI := Lib.hid (show di = 1 by rw [HDI2.out, h4]; decide)
              clear h1 h2 h3
              subst h4
              go_wp2_with fail
              go_meet
              case rel => exact ⟨by rw [HI.out], rfl⟩
            · have g4 := ne_b h4
              by_cases h5 : xo = 35
              · have HI := Lib.hid (show di = 1 by rw [HDI2.out, h5]; decide)
                clear h1 h2 h3 h4
                subst h5
                go_wp2_with fail
                go_meet
                case rel => exact ⟨by rw [HI.out], rfl⟩
              · have g5 := ne_b h5
                have HI := Lib.hid (show di = 0 by rw [HDI2.out]; unfold incI incB; rw [g1, g2, g3, g4, g5]; rfl)
                clear h1 h2 h3 h4 h5
                go_wp2_with fail
                go_meet
                case rel => exact ⟨by rw [HI.out, Int.add_zero], rfl⟩
    --]
  case rest =>
    obtain ⟨rfl, rfl⟩ := hcut
    obtain ⟨d1, hd1⟩ : ∃ d1, d1 = d + di := ⟨_, rfl⟩
    have hmx : max d d1 = d1 := by omega
    have hd1n : d ≤ d1 ∧ d1 ≤ d + 1 := by omega
    rw [← hd1]
    have HD1 := Lib.hid hd1
    clear hd1 hdi
    by_cases h49 : xo = 49
    · --[
      as_aux_lemma =>
        have HDD := Lib.hid (show d1 = d by rw [HD1.out, HDI.out, h49, show incI 49 = 0 by decide, Int.add_zero])
        have HRR := Lib.hid (show R = chainF k d 1 by rw [HR.out]; exact openT_field h49)
        have HCH2 := Lib.hid (HCH.out h49 w2 HB2.out)
        have hdd := HDD.out
        subst hdd
        rw [← HRR.out] at HCH2
        subst h49
        clear HRW HRK HEX HCH
        go_wp2_with fail
        refine HCH2.out.mono ?_
        rintro e w3 ⟨rfl, hb3⟩
        have HB3 := Lib.hid (G.bl_trans HB2.out hb3)
        clear hb3
        go_wp2_with fail
        go_ret
        exact ⟨rfl, HB3.out⟩
      --]
    · have H49 := Lib.hid h49
      have g49 := ne_b h49
      clear h49 HCH
      obtain ⟨rk, hrk⟩ : ∃ rk, rk = rankOf xo := ⟨_, rfl⟩
      obtain ⟨EX, hEX⟩ : ∃ EX, EX = exprB xo := ⟨_, rfl⟩
      obtain ⟨rb, hrb⟩ : ∃ rb, rb = rowB xo := ⟨_, rfl⟩
      rw [← hrk] at HRK
      rw [← hEX] at HEX
      have HRB := Lib.hid hrb
      have HRBE := Lib.hid (show rb = (EX && (rk == 1 || rk == 2 || rk == 5 || rk == 6)) by rw [hrb, hEX, hrk]; rfl)
      clear hrk hEX hrb
      go_wp2_with fail
      refine (HRK.out _).mono ?_
      rintro e wq ⟨rfl, rfl⟩
      go_upto_region 14 with (fail)
      go_cut [82] from 15 to 133 (fun s82 wx => s82 = .bool rb ∧ w2 = wx)
      case first =>
        --[
        as_aux_lemma =>
          cases EX with
          | false =>
            have HF := Lib.hid (show rb = false from HRBE.out)
            go_wp2_with fail
            refine (HEX.out _).mono ?_
            rintro e wq ⟨rfl, rfl⟩
            go_wp2_with fail
            go_meet
            case rel => exact ⟨by rw [HF.out], rfl⟩
          | true =>
            by_cases r1 : rk = 1
            · subst r1
              have HF := Lib.hid (show rb = true from HRBE.out)
              go_wp2_with fail
              refine (HEX.out _).mono ?_
              rintro e wq ⟨rfl, rfl⟩
              go_wp2_with fail
              go_meet
              case rel => exact ⟨by rw [HF.out], rfl⟩
            · have q1 := ne_b r1
              by_cases r2 : rk = 2
              · clear r1
                subst r2
                have HF := Lib.hid (show rb = true from HRBE.out)
                go_wp2_with fail
                refine (HEX.out _).mono ?_
                rintro e wq ⟨rfl, rfl⟩
                go_wp2_with fail
                go_meet
                case rel => exact ⟨by rw [HF.out], rfl⟩
              · have q2 := ne_b r2
                by_cases r5 : rk = 5
                · clear r1 r2
                  subst r5
                  have HF := Lib.hid (show rb = true from HRBE.out)
                  go_wp2_with fail
                  refine (HEX.out _).mono ?_
                  rintro e wq ⟨rfl, rfl⟩
                  go_wp2_with fail
                  go_meet
                  case rel => exact ⟨by rw [HF.out], rfl⟩
                · have q5 := ne_b r5
                  by_cases r6 : rk = 6
                  · clear r1 r2 r5
                    subst r6
                    have HF := Lib.hid (show rb = true from HRBE.out)
                    go_wp2_with fail
                    refine (HEX.out _).mono ?_
                    rintro e wq ⟨rfl, rfl⟩
                    go_wp2_with fail
                    go_meet
                    case rel => exact ⟨by rw [HF.out], rfl⟩
                  · have q6 := ne_b r6
                    have HF := Lib.hid (show rb = false by rw [HRBE.out, q1, q2, q5, q6]; rfl)
                    clear r1 r2 r5 r6
                    go_wp2_with fail
                    refine (HEX.out _).mono ?_
                    rintro e wq ⟨rfl, rfl⟩
                    go_wp2_with fail
                    go_meet
                    case rel => exact ⟨by rw [HF.out], rfl⟩
        --]
      case rest =>
        obtain ⟨rfl, rfl⟩ := hcut
        cases rb with
        | true =>
          --[
          as_aux_lemma =>
            have hb : rowB xo = true := HRB.out.symm
            have HDD := Lib.hid (show d1 = d by rw [HD1.out, HDI.out, inc_row hb, Int.add_zero])
            have HRR := Lib.hid (show R = (rowF xo k d).1 by
              have h1 := HR.out
              rw [openT_row H49.out hb] at h1
              rw [h1]
              show (rowF xo k (d + incI xo)).1 = _
              rw [inc_row hb, Int.add_zero])
            have HRW2 := Lib.hid (HRW.out hb w2 HB2.out)
            have hdd := HDD.out
            subst hdd
            rw [← HRR.out] at HRW2
            generalize (rowF xo k d1).2 = mm at HRW2
            clear HRW hb
            go_wp2_with fail
            refine HRW2.out.mono ?_
            rintro e w3 ⟨rfl, hb3⟩
            have HB3 := Lib.hid (G.bl_trans HB2.out hb3)
            clear hb3
            go_wp2_with fail
            go_ret
            exact ⟨rfl, HB3.out⟩
          --]
        | false =>
          --[
          as_aux_lemma =>
            have hrb0 : rowB xo = false := HRB.out.symm
            have hbh := stands_behind HST.out HG.out.1 (Good.wf HG.out.2.2.2.1)
            have hKL : kidsL t (p : Int) = (List.range k.len).map (fun q => skipTo t (p + 1) q) := by
              unfold kidsL
              have h2 := HST.out.get.2
              have h3 : (⟨xo, xk, xn, xm, xt, xa, xq⟩ : Nd).kids = k.len := HG.out.1
              rw [if_neg (by omega), Int.toNat_natCast, h2, h3, Int.toNat_natCast]
            have hll : (kidsL t (p : Int)).length = k.len := by rw [hKL]; simp
            have HOWN := Lib.hid (show w2.ownsRow w1.heap.size 3 1 v k.len (ints ((List.range k.len).map (fun q => skipTo t (p + 1) q))) by
              have h := HRO.out
              rw [hll, hKL] at h
              exact h)
            have HS0 := Lib.hid (show skipTo t (p + 1) 0 = ((p + 1 : Nat) : Int) from skip_zero (by have := HN.out; omega))
            have HKM := Lib.hid (show kidsMax xo 0 d1 k d1 = R by
              have h1 := HR.out
              rw [openT_kids H49.out hrb0] at h1
              rw [h1, HD1.out, HDI.out])
            have HNR := Lib.hid (show ¬ (rankOf xo = 1 ∨ rankOf xo = 2 ∨ rankOf xo = 5 ∨ rankOf xo = 6) from fun h => by rw [← rowB_iff, hrb0] at h; cases h)
            obtain ⟨K, hK⟩ : ∃ K, K = k.len := ⟨_, rfl⟩
            rw [← hK] at HOWN
            have HKK := Lib.hid hK
            have hkl : K ≤ 16777216 := by
              have h1 : ∀ f : Fo, f.len ≤ f.size := by
                intro f
                induction f with
                | nil => exact Nat.le_refl 0
                | cons x k r _ ih => simp only [Fo.len, Fo.size]; omega
              have := h1 k
              omega
            obtain ⟨a8, c8, hv8⟩ := G.own_shape HOWN.out
            subst hv8
            have HR8 := Lib.hid (G.RdS.of_own HOWN.out)
            clear hrb0 hbh hKL hll hK HRW HRK HEX HRO
            go_wp2_with fail
            go_loopw [9, 13] (fun s9 s13 wr => ∃ (i q : Nat) (f : Fo) (m : Int), s13 = .int .i64 i ∧ s9 = .int .i64 m ∧ Hid (StandsAt t q f ∧ Good f ∧ f.len + i = K ∧ skipTo t (p + 1) i = q ∧ kidsMax xo i d1 f m = R) ∧ f.size ≤ k.size ∧ i ≤ K ∧ Below w2.heap.size w2 wr) (fun _ s13 _ => K - (intOf s13).toNat)
            case atStart => exact ⟨0, p + 1, k, d1, rfl, rfl, Lib.hid ⟨HST.out.kids, HG.out.2.2.2.1, HKK.out.symm, HS0.out, HKM.out⟩, Nat.le_refl _, Nat.zero_le _, Below.refl _ _⟩
            case round =>
              obtain ⟨i, q, f, m, rfl, rfl, HF, hfs, hiK, hbel⟩ := hrel
              have HBEL := Lib.hid hbel
              have hi0 : (0 : Int) ≤ i := by omega
              cases f with
              | nil =>
                have hik : i = K := by have h1 : 0 + i = K := HF.out.2.2.1; omega
                have hik1 : ¬ (i : Int) < K := by omega
                have HRM := Lib.hid (show m = R by have h := HF.out.2.2.2.2; rwa [kidsMax_nil] at h)
                have HBF := Lib.hid (G.bl_trans HB2.out hbel)
                clear hbel hik
                go_wp2_with fail
                go_ret
                exact ⟨ret_int HRM.out, HBF.out⟩
              | cons y ky r =>
                have hlt : i < K := by have h1 : (Fo.cons y ky r).len + i = K := HF.out.2.2.1; simp only [Fo.len] at h1; omega
                have hlt1 : (i : Int) < K := by omega
                have hsz : (Fo.cons y ky r).size = 1 + ky.size + r.size := rfl
                obtain ⟨b2, off2, hA2, hcy, hq⟩ := op_cell HN.out (HRD.out.below (G.bl_trans HB2.out hbel)) HF.out.1
                obtain ⟨rfl, rfl⟩ : b = b2 ∧ off = off2 := by simpa using hA2
                obtain ⟨b8, o8, ha8, hr8⟩ := (HR8.out.below hbel).2 (by omega)
                subst ha8
                have hcq := hr8.2 i (by simp [ints]; exact hlt)
                have e1 : (ints ((List.range K).map (fun q => skipTo t (p + 1) q))).getD i undef = .int .i64 (skipTo t (p + 1) i) := by simp [ints, List.getD_eq_getElem?_getD, hlt]
                rw [e1, HF.out.2.2.2.1] at hcq
                have hq1 : (q : Int) < n := by omega
                have hq0 : (0 : Int) ≤ q := by omega
                have hn0 : wr.cell? ⟨nb, 0, none⟩ = some (.int .i8 xo) := (hbel.cell (p := ⟨nb, 0, none⟩) (World.block_lt_of_cell? _ _ h0)).trans h0
                have gy : Good (.cons y ky .nil) := ⟨HF.out.2.1.1, HF.out.2.1.2.1, HF.out.2.1.2.2.1, HF.out.2.1.2.2.2.1, trivial⟩
                have HOY := Lib.hid (fun (W' : World) (h : Below W.heap.size W W') => HOP.out y ky (by omega) q (d1 + 1) W' (HRD.out.below h) HF.out.1.one gy (by omega) (by omega))
                have HPY := Lib.hid (fun (wt : Int) (h1 : 1 ≤ wt) (h8 : wt ≤ 8) (W' : World) (h : Below W.heap.size W W') => HPL.out y ky (by omega) q d1 wt W' (HRD.out.below h) HF.out.1.one gy (by omega) (by omega) h1 h8)
                have HWT := Lib.hid (fun (W' : World) => refWants_any xo i (by omega) (.inr HNR.out) W')
                have hwb := wants_bd xo i
                unfold IPost at HOY HPY
                have HBW := Lib.hid (G.bl_trans HB2.out hbel)
                obtain ⟨V, hV⟩ : ∃ V, V = if xo = 13 ∧ i = 2 ∧ y.op = 13 then openT y ky (d1 + 1) else openT y ky (d1 + lowI y.op (wantsOf xo i)) := ⟨_, rfl⟩
                have HNX := Lib.hid (show StandsAt t (q + 1 + ky.size) r ∧ Good r ∧ r.len + (i + 1) = K ∧ skipTo t (p + 1) (i + 1) = ((q + 1 + ky.size : Nat) : Int) ∧ kidsMax xo (i + 1) d1 r (max m V) = R by
                  refine ⟨HF.out.1.rest, HF.out.2.1.2.2.2.2, ?_, ?_, ?_⟩
                  · have h1 : (Fo.cons y ky r).len + i = K := HF.out.2.2.1
                    simp only [Fo.len] at h1
                    omega
                  · rw [skip_step (by rw [HF.out.2.2.2.1]; omega), HF.out.2.2.2.1]
                    exact stands_behind HF.out.1 gy.1 (Good.wf gy.2.2.2.1)
                  · have h1 := HF.out.2.2.2.2
                    rw [kidsMax_cons] at h1
                    rw [hV]
                    exact h1)
                obtain ⟨yo, hyo⟩ : ∃ yo, yo = y.op := ⟨_, rfl⟩
                rw [← hyo] at hcy hV HPY
                clear hr8 e1 gy hA2 hyo hbel HF
                have HV := Lib.hid hV
                clear hV
                by_cases q1 : xo = 13 ∧ i = 2 ∧ yo = 13
                · have HV2 := Lib.hid (show V = openT y ky (d1 + 1) by rw [HV.out, if_pos q1])
                  rw [← HV2.out] at HOY
                  obtain ⟨rfl, rfl, rfl⟩ := q1
                  clear HPY HWT
                  go_wp2_with fail
                  refine (HOY.out wr HBW.out).mono ?_
                  rintro e w3 ⟨rfl, hb3⟩
                  have HB3 := Lib.hid (G.bl_trans HBEL.out hb3)
                  clear hb3
                  go_wp2_with fail
                  go_roundw
                  case rel => exact ⟨3, q + 1 + ky.size, r, _, rfl, rfl, HNX, by omega, by omega, HB3.out⟩
                  case measure => simp [intOf]; omega
                · have HV2 := Lib.hid (show V = openT y ky (d1 + lowI yo (wantsOf xo i)) by rw [HV.out, if_neg q1])
                  have HPY2 := Lib.hid (HPY.out (wantsOf xo i) hwb.1 hwb.2)
                  rw [← HV2.out] at HPY2
                  generalize wantsOf xo i = wt at HPY2 HWT
                  clear HOY HPY hwb
                  have q2 : (¬ xo = 13) ∨ (xo = 13 ∧ ¬ i = 2) ∨ (xo = 13 ∧ i = 2 ∧ ¬ yo = 13) := by
                    by_cases e1 : xo = 13
                    · by_cases e2 : i = 2
                      · exact .inr (.inr ⟨e1, e2, fun e3 => q1 ⟨e1, e2, e3⟩⟩)
                      · exact .inr (.inl ⟨e1, e2⟩)
                    · exact .inl e1
                  clear q1
                  have key : (xo == 13) = false ∨ (xo = 13 ∧ ((i : Int) == 2) = false) ∨ (xo = 13 ∧ i = 2 ∧ (yo == 13) = false) := by
                    rcases q2 with h | ⟨h1, h2⟩ | ⟨h1, h2, h3⟩
                    · exact .inl (ne_b h)
                    · exact .inr (.inl ⟨h1, by simpa using (show ¬ (i : Int) = 2 by omega)⟩)
                    · exact .inr (.inr ⟨h1, h2, ne_b h3⟩)
                  clear q2
                  rcases key with q3 | ⟨rfl, q3⟩ | ⟨rfl, rfl, q3⟩
                  all_goals
                    go_wp2_with fail
                    refine (HWT.out _).mono ?_
                    rintro e wq ⟨rfl, rfl⟩
                    go_wp2_with fail
                    refine (HPY2.out wr HBW.out).mono ?_
                    rintro e w3 ⟨rfl, hb3⟩
                    have HB3 := Lib.hid (G.bl_trans HBEL.out hb3)
                    clear hb3
                    go_wp2_with fail
                    go_roundw
                    case rel => exact ⟨_ + 1, q + 1 + ky.size, r, _, by go_num, rfl, HNX, by omega, by omega, HB3.out⟩
                    case measure => simp [intOf]; omega
          --]
theorem open_all {t : List Nd} {A : Option Addr} {n cap : Nat} (hn : t.length = n) (hm : n ≤ 16777216) : ∀ (N : Nat) (x : Nd) (k : Fo), k.size ≤ N → OpenC t A n cap x k := by
  intro N
  induction N with
  | zero => intro x k hk; exact open_of hn hm x k (fun y ky h => by omega)
  | succ N ih => intro x k hk; exact open_of hn hm x k (fun y ky h => ih y ky (by omega))
end Go.Proofs.Ytamienmbpdbnnaa.T
