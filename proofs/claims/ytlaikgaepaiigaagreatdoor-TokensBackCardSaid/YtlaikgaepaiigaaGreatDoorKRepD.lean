/- The replacer of quotes and backslashes: made, built once. -/
import Derived.Test.YtlaikgaepaiigaaGreatDoorKRepB
import Derived.Test.YtlaikgaepaiigaaGreatDoorKRefA
namespace Go.Proofs.YtlaikgaepaiigaaGreatDoor.K
open Go Go.RowKit
set_option linter.unusedVariables false
set_option linter.unusedSimpArgs false
def oldnew : List Value := [.string ⟨#[92]⟩, .string ⟨#[92, 92]⟩, .string ⟨#[34]⟩, .string ⟨#[92, 34]⟩]
theorem rd_cells {w : World} {b : Nat} {xs : List Value} (h : G.RdV w b 0 xs) : ∀ j u, xs[j]? = some u → w.cell? ((⟨b, 0, none⟩ : Addr).add j) = some u := by
  intro j u hu
  obtain ⟨hj, e⟩ := List.getElem?_eq_some_iff.1 hu
  rw [Addr.add_lit, h.2 j hj, List.getD_eq_getElem?_getD, hu]
  rfl
theorem own_rdv {w : World} {base : Nat} {e : TypeId} {v : Value} {n : Nat} {xs : List Value} (h : w.ownsRow base e 1 v (n + 4) xs) : ∃ a cap, v = .slice (some ⟨a, 0, none⟩) (n + 4) cap ∧ G.RdV w a 0 xs := by
  rcases h.2 with ⟨_, h0⟩ | ⟨g, cap, cur, rfl, _⟩
  · omega
  · obtain ⟨b, o, e, hr⟩ := (G.RdS.of_own h).2 (by omega)
    cases e
    exact ⟨g, cap, rfl, hr⟩
def NewPost (w : World) (e : Ending) (w' : World) : Prop :=
  ∃ r a cap, e = .returned (.pointer (some ⟨r, 0, none⟩)) ∧ G.Blk w' r 71 #[.int .u32 0, .int .i32 0, .int .u32 0, .nilIface, .slice (some ⟨a, 0, none⟩) 4 cap] ∧ G.RdV w' a 0 oldnew ∧ w.heap.size ≤ r ∧ a ≠ r ∧ Below w.heap.size w w'
set_option maxRecDepth 100000 in
set_option maxHeartbeats 2000000 in
theorem newRep_any (s c : Nat) (w : World) (hs : G.RdV w s 0 oldnew) : Calls Tryz.prog 19 #[.slice (some ⟨s, 0, none⟩) 4 c] w (NewPost w) := by
  obtain ⟨i0, hinf, hz0, hz1, hz2⟩ := info_parts infoStr
  have HS := Lib.hid hs
  clear hs
  go_enter Tryz.func19, Tryz.ntmps19
  go_wp2_with (at_builtin; refine wpList_append_own _ rfl _ (.tmp 8) 55 rfl w.heap.size 9 i0 (.string ⟨#[]⟩) 1 16 Tryz.underlying55 hinf hz0 hz1 hz2 rfl (by decide) (.slice none 0 0) 0 [] rfl (World.ownsRow_nil _ _ _ _) ⟨s, 0, none⟩ 4 c oldnew rfl rfl (rd_cells HS.out) (by intro u hu; simp [oldnew] at hu; rcases hu with rfl | rfl | rfl | rfl <;> rfl) (by unfold maxLen; omega) (by omega) (Nat.le_refl _) ?_; intro v3 w3 hown3 hg3 _q; obtain ⟨a, cap, hv3, hRd⟩ := own_rdv hown3; subst hv3; have HRD := Lib.hid hRd; have HB3 := Lib.hid (show Below w.heap.size w w3 from (Below.refl _ _).grown hg3 (Nat.le_refl _) (fun g hg => by cases hg)); clear hown3 hg3 hRd)
  go_ret
  exact ⟨_, a, cap, rfl, G.Blk.new w3 _ _, HRD.out.below (G.bl_alloc (Below.refl _ _) _), HB3.out.size, Nat.ne_of_lt HRD.out.1, G.bl_alloc HB3.out _⟩
def OncePost (n r : Nat) (d m : Int) (w : World) (e : Ending) (w' : World) : Prop :=
  e = .returned (.tuple #[]) ∧ ∃ B, G.Blk w' r 71 #[.int .u32 d, .int .i32 m, .int .u32 0, .iface 109 (.pointer (some ⟨B, 0, none⟩)), .slice none 0 0] ∧ RepIn n w' B ∧ Upd r w w'
set_option maxRecDepth 100000 in
set_option maxHeartbeats 2000000 in
theorem buildOnce_any (r a cap : Nat) (d m : Int) (w : World) (hr : G.Blk w r 71 #[.int .u32 d, .int .i32 m, .int .u32 0, .nilIface, .slice (some ⟨a, 0, none⟩) 4 cap]) (ha : G.RdV w a 0 oldnew) :
    Calls Tryz.prog 34 #[.pointer (some ⟨r, 0, none⟩)] w (OncePost w.heap.size r d m w) := by
  have HC := Lib.hid (build_any r a cap w (hr.cell 4) (ha.2 0 (by decide)) (ha.2 1 (by decide)) (ha.2 2 (by decide)) (ha.2 3 (by decide)))
  have HR := Lib.hid hr
  clear hr ha
  go_enter Tryz.func34, Tryz.ntmps34
  go_wp2_with fail
  refine HC.out.mono ?_
  rintro e w1 he
  unfold BuildPost at he
  obtain ⟨B, rfl, hrep, hb⟩ := he
  have HREP := Lib.hid hrep
  have HU := Lib.hid (Upd.below hb (Nat.le_of_lt HR.out.lt))
  have HR1 := Lib.hid (HR.out.below hb HR.out.lt)
  clear hrep hb
  have c3 := HR1.out.cell 3
  have c4 := HR1.out.cell 4
  have l3 := HR1.out.frozen 3
  have l4 := HR1.out.frozen 4
  simp at c3 c4
  have HR2 := Lib.hid ((HR1.out.put 3 (.iface 109 (.pointer (some ⟨B, 0, none⟩)))).put 4 (.slice none 0 0))
  have HU2 := Lib.hid ((HU.out.trans (Upd.set (g := r) w1 3 (.iface 109 (.pointer (some ⟨B, 0, none⟩))))).trans (Upd.set (g := r) _ 4 (.slice none 0 0)))
  have hrl := HR.out.lt
  have HREP2 := Lib.hid (HREP.out.keep (w' := (w1.setCell ⟨r, 3, none⟩ (.iface 109 (.pointer (some ⟨B, 0, none⟩)))).setCell ⟨r, 4, none⟩ (.slice none 0 0)) (by simp) (fun b h1 h2 => by rw [Below.heap_setCell _ _ _ _ (by simp; omega), Below.heap_setCell _ _ _ _ (by simp; omega)]))
  go_wp2_with fail
  go_returns
  exact ⟨rfl, B, HR2.out, HREP2.out, HU2.out⟩
theorem load_zero (a : Addr) (w : World) (h : w.cell? a = some (.int .u32 0)) : Calls Tryz.prog 44 #[.pointer (some a)] w fun e w' => e = .returned (.bool false) ∧ w = w' := by
  have hl := run_call_load (P := Tryz.prog) Tryz.func58 (by kernel_rfl) (by kernel_rfl) (by kernel_rfl) .u32 (by kernel_rfl) h
  go_enter Tryz.func44, Tryz.ntmps44
  go_wp2_with fail
  go_ret
  exact ⟨rfl, rfl⟩
theorem upd_far {r : Nat} {w w1 : World} (h : Upd r w w1) (i : Nat) (u : Value) : Upd r w (w1.setCell ⟨r, i, none⟩ u) := h.trans (Upd.set (g := r) w1 i u)
theorem rep_far {n r : Nat} {w : World} {B : Nat} (h : RepIn n w B) (hr : r < n) (i : Nat) (u : Value) : RepIn n (w.setCell ⟨r, i, none⟩ u) B := h.keep (by simp) (fun b h1 h2 => Below.heap_setCell _ _ _ _ (by simp; omega))
set_option maxRecDepth 100000 in
set_option maxHeartbeats 2000000 in
theorem slow_any (r a cap : Nat) (w : World) (hr : G.Blk w r 71 #[.int .u32 0, .int .i32 0, .int .u32 0, .nilIface, .slice (some ⟨a, 0, none⟩) 4 cap]) (ha : G.RdV w a 0 oldnew) (har : a ≠ r) :
    Calls Tryz.prog 45 #[.pointer (some ⟨r, 0, none⟩), .func (.func 34) #[.pointer (some ⟨r, 0, none⟩)] #[]] w (OncePost w.heap.size r 1 0 w) := by
  obtain ⟨w1, hw1⟩ : ∃ w1, w1 = w.setCell ⟨r, 1, none⟩ (.int .i32 1) := ⟨_, rfl⟩
  have HR1 := Lib.hid (show G.Blk w1 r 71 #[.int .u32 0, .int .i32 1, .int .u32 0, .nilIface, .slice (some ⟨a, 0, none⟩) 4 cap] by rw [hw1]; exact hr.put 1 _)
  have HA1 := Lib.hid (show G.RdV w1 a 0 oldnew by rw [hw1]; exact ha.keep (by simpa using ha.1) (Below.heap_setCell _ _ _ _ har))
  have HU1 := Lib.hid (show Upd r w w1 by rw [hw1]; exact Upd.set (g := r) w 1 _)
  have hsz : w1.heap.size = w.heap.size := by rw [hw1]; simp
  have HC := Lib.hid (buildOnce_any r a cap 0 1 w1 HR1.out HA1.out)
  rw [hsz] at HC
  have c1 := hr.cell 1
  have l1 := hr.frozen 1
  simp at c1
  have hl := run_call_load (P := Tryz.prog) Tryz.func58 (by kernel_rfl) (by kernel_rfl) (by kernel_rfl) .u32 (by kernel_rfl) (w := w1) (a := ⟨r, 0, none⟩) (x := 0) (HR1.out.cell 0)
  have hnot : ∀ (x : Bool) (w : World), (Op.unary .not (.bool x)).run Tryz.prog w = .ok (.bool (!x)) w := fun _ _ => rfl
  have hrl := hr.lt
  clear hr ha hsz
  have HW := Lib.hid hw1
  clear hw1
  go_enter_defers Tryz.func45, Tryz.ntmps45
  go_wp2_with (go_at_call 59; refine (lock_free ⟨r, 1, none⟩ _ c1 l1).mono ?_; rintro e w' ⟨rfl, rfl⟩; rw [← HW.out])
  refine (load_zero _ _ (HR1.out.cell 0)).mono ?_
  rintro e wq ⟨rfl, rfl⟩
  go_wp2_with fail
  refine HC.out.mono ?_
  rintro e w2 he
  unfold OncePost at he
  obtain ⟨rfl, B, hB2, hrep2, hu2⟩ := he
  have HB2 := Lib.hid hB2
  have HREP2 := Lib.hid hrep2
  have HU2 := Lib.hid (HU1.out.trans hu2)
  clear hB2 hrep2 hu2
  go_wp2_with fail
  refine leaves_cons (f := 61) (args := #[.pointer (some ⟨r, 0, none⟩), .bool true]) (by simp) (by simp [go_sem]) ?_
  refine (store_deferred ⟨r, 0, none⟩ (.int .u32 0) .returning _ (HB2.out.cell 0) (HB2.out.frozen 0)).mono ?_
  rintro e u' w'' ⟨rfl, rfl, rfl⟩
  have HB3 := Lib.hid ((show G.Blk w2.drew r 71 _ from HB2.out).put 0 (.int .u32 1))
  refine leaves_cons (f := 60) (args := #[.pointer (some ⟨r, 1, none⟩)]) (by simp [settle]) (by simp [go_sem]) ?_
  refine (unlock_deferred ⟨r, 1, none⟩ _ _ ((HB3.out.cell 1).trans (by simp)) (HB3.out.frozen 1)).mono ?_
  rintro e u' w'' ⟨rfl, rfl, rfl⟩
  have HB4 := HB3.out.put 1 (.int .i32 0)
  have HR4 := rep_far (rep_far (show RepIn w.heap.size w2.drew B from HREP2.out) hrl 0 (.int .u32 1)) hrl 1 (.int .i32 0)
  have HU4 := upd_far (upd_far (show Upd r w w2.drew from ⟨HU2.out.1.drew, HU2.out.2⟩) 0 (.int .u32 1)) 1 (.int .i32 0)
  have hP : OncePost w.heap.size r 1 0 w (.returned (.tuple #[])) ((w2.drew.setCell ⟨r, 0, none⟩ (.int .u32 1)).setCell ⟨r, 1, none⟩ (.int .i32 0)) := ⟨rfl, B, by simpa using HB4, HR4, HU4⟩
  simpa [Leaves, settle, results, Tryz.results45] using hP
set_option maxRecDepth 100000 in
set_option maxHeartbeats 2000000 in
theorem do_any (r a cap : Nat) (w : World) (hr : G.Blk w r 71 #[.int .u32 0, .int .i32 0, .int .u32 0, .nilIface, .slice (some ⟨a, 0, none⟩) 4 cap]) (ha : G.RdV w a 0 oldnew) (har : a ≠ r) :
    Calls Tryz.prog 33 #[.pointer (some ⟨r, 0, none⟩), .func (.func 34) #[.pointer (some ⟨r, 0, none⟩)] #[]] w (OncePost w.heap.size r 1 0 w) := by
  have HC := Lib.hid (slow_any r a cap w hr ha har)
  have h0 := hr.cell 0
  simp at h0
  have hnot : ∀ (x : Bool) (w : World), (Op.unary .not (.bool x)).run Tryz.prog w = .ok (.bool (!x)) w := fun _ _ => rfl
  clear hr ha
  go_enter Tryz.func33, Tryz.ntmps33
  go_wp2_with fail
  refine (load_zero _ _ h0).mono ?_
  rintro e wq ⟨rfl, rfl⟩
  go_wp2_with fail
  refine HC.out.mono ?_
  rintro e w2 he
  unfold OncePost at he
  obtain ⟨rfl, hP⟩ := he
  have HP := Lib.hid hP
  clear hP
  go_wp2_with fail
  go_returns
  exact ⟨rfl, HP.out⟩
end Go.Proofs.YtlaikgaepaiigaaGreatDoor.K
