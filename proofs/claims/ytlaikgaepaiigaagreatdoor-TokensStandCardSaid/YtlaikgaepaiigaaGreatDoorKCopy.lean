/- A source, empty or not, copied. -/
import Derived.Test.YtlaikgaepaiigaaGreatDoorKBytes
namespace Go.Proofs.YtlaikgaepaiigaaGreatDoor.K
open Go Go.RowKit
set_option linter.unusedVariables false
set_option linter.unusedSimpArgs false
set_option maxHeartbeats 1000000 in
theorem copyZ_any (A : Option Addr) (c : Nat) (zs : List Int) (w : World) (hx : G.RdS w A 1 zs.length (zs.map (Value.int .u8))) (hn : zs.length ≤ 1099511627776) (hc : A = none → c = 0) :
    Calls Tryz.prog 14 #[.slice A zs.length c] w (G.CopyPost zs w) := by
  rcases Nat.eq_zero_or_pos zs.length with h0 | h0
  · have hz : zs = [] := List.eq_nil_of_length_eq_zero h0
    subst hz
    cases A with
    | none =>
      obtain rfl := hc rfl
      exact G.copyBytes_nil w
    | some ad =>
      obtain ⟨i0, hi, hz0, hz1, hz2⟩ := info_parts G.info5
      clear hx hn hc h0
      go_enter Tryz.func14, Tryz.ntmps14
      go_wp2_with (at_builtin; refine wpList_append_own _ rfl _ _ 32 rfl w.heap.size 5 i0 _ 1 1 Tryz.underlying32 hi hz0 hz1 hz2 rfl (by decide) (.slice none 0 0) 0 [] rfl (World.ownsRow_nil _ _ _ _) ad 0 c [] rfl (by simp) (fun j u hu => by simp at hu) (fun u hu => by cases hu) (by unfold maxLen; omega) (by omega) (Nat.le_refl _) ?_; intro v3 w3 hown3 hg3 _q)
      go_ret
      exact ⟨_, rfl, hown3, (Below.refl _ _).grown hg3 (Nat.le_refl _) (fun k hk => by cases hk)⟩
  · obtain ⟨b, off, rfl, hr⟩ := hx.2 h0
    exact G.copyBytes_any b off c zs w hr hn
end Go.Proofs.YtlaikgaepaiigaaGreatDoor.K
