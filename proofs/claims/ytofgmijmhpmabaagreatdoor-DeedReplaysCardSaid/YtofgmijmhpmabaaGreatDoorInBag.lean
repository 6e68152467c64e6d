/- The lists of one kind in a bag, behind what else is written. (Taken out of gen_bagset.py's text.) -/
import Derived.Test.YtofgmijmhpmabaaGreatDoorBagAll
import Derived.Test.YtofgmijmhpmabaaGreatDoorApartInts
import Derived.Test.YtofgmijmhpmabaaGreatDoorApartU8
namespace Go.Proofs.YtofgmijmhpmabaaGreatDoor.G
open Go Go.RowKit
set_option linter.unusedVariables false
set_option linter.unusedSimpArgs false
set_option maxRecDepth 100000 in
set_option maxHeartbeats 1000000 in
theorem addInts_raw (base gb k hc n cl : Nat) (HA al : Option Addr) (cs : Array Value) (hdrs : List Value) (w : World) (hB : Blk w gb 64 cs) (hcs : cs[1]? = some (.slice HA k hc)) (hk : k < 400)
 (hho : w.ownsRow base 28 1 (.slice HA k hc) k hdrs) (hgb : base ≤ gb) :
 Calls Tryz.prog 126 #[.pointer (some ⟨gb, 0, none⟩), .slice al n cl] w (AddPost 64 28 base gb 1 k cs hdrs (.slice al n cl) w) := by
 obtain ⟨i1, hi1, hz10, hz11, hz12⟩ := info_parts info28
 have hcell := (hB.cell 1).trans hcs
 have hzb := hB.lt
 have HB := Lib.hid hB
 have HHO := Lib.hid hho
 have hk1 : (k : Int) < 400 := by omega
 clear hB hho
 go_enter Tryz.func126, Tryz.ntmps126
 go_wp2_with (at_builtin; refine wpList_append_own _ rfl (.tmp 14) (.tmp 16) 24 rfl base 28 i1 (.slice none 0 0) 1 24 Tryz.underlying24 hi1 hz10 hz11 hz12 rfl (by decide) _ _ _ rfl (HHO.out.alloc _) ⟨w.heap.size, 0, none⟩ 1 1 [.slice al n cl] rfl rfl (cells_new _ _ _ _ rfl) (by simp [Value.oneCell']) (by unfold maxLen; omega) (by omega) (by simp; omega) ?_; intro v' w1 hown1 hg1 _q; obtain ⟨HA', hc', hv⟩ := own_shape hown1; subst hv; have hB1 := Lib.hid ((HB.out.alloc _).far_row (HHO.out.alloc _) hg1 (by decide)); have hT1 := Lib.hid (((Touch.refl [64, 28] base w).later (by omega) (bl_alloc (Below.refl _ _) _)).grown (HHO.out.alloc _) hg1 (by decide) (Nat.le_refl _) (by simp; omega)); have hc1 := (hB1.out.cell 1).trans hcs; have hf1 := hB1.out.frozen 1)
 go_returns
 refine ⟨rfl, HA', hc', hB1.out.put _ _, ?_, hT1.out.set hB1.out (by decide) hgb _ _⟩
 exact hown1.kept (row := some gb) ((Touch.refl [] 0 w1).below |> fun _ => ⟨rfl, rfl, rfl, by simp, fun j hj hne => Below.heap_setCell w1 ⟨gb, 1, none⟩ _ j (fun e => hne (by rw [e]))⟩) (row_ne hown1 hB1.out (by decide))
theorem addInts_bag (gb n cl : Nat) (al : Option Addr) (L : Nat → List Value) (w : World) (hB : BagAll w gb L) (hk : (L 1).length < 400) :
 Calls Tryz.prog 126 #[.pointer (some ⟨gb, 0, none⟩), .slice al n cl] w (BagPost gb (addK L 1 [.slice al n cl]) w) := by
 obtain ⟨cs, h1, h2, h3⟩ := hB.ex
 obtain ⟨HA, hc, h4, h5⟩ := (h3 1 (by decide)).ex
 exact (addInts_raw gb gb _ hc n cl HA al cs _ w h1 h4 hk h5 (Nat.le_refl _)).mono fun e w' h => BagAll.add (i := 1) (HA := HA) (hc := hc) (by decide) h1 h2 h3 h
end Go.Proofs.YtofgmijmhpmabaaGreatDoor.G
namespace Go.Proofs.YtofgmijmhpmabaaGreatDoor.G
open Go Go.RowKit
set_option linter.unusedVariables false
set_option linter.unusedSimpArgs false
theorem Fam.touch {w w' : World} {base B : Nat} {e : TypeId} {size : Nat} {R : Rw → Prop} {ts : List TypeId} (h : Fam w base e size R) (ht : Touch ts B w w') (he : e ∉ ts) : Fam w' base e size R := ⟨fun r hr => ht.own (h.1 r hr) he, h.2⟩
/-- The lists of one kind in a bag. -/
structure InBag (w : World) (base : Nat) (cs : Array Value) (i : Nat) (S E : TypeId) (sz : Nat) (Ls : List Lst) : Prop where
 ex : ∃ HA hc, cs[i]? = some (.slice HA Ls.length hc) ∧ w.ownsRow base S 1 (.slice HA Ls.length hc) Ls.length (Ls.map Lst.v)
 few : Ls.length ≤ 400
 fam : Fam w base E sz (Rows0 Ls)
 len : ∀ l ∈ Ls, l.n ≤ 1099511627776
theorem InBag.touch {w w' : World} {base B i : Nat} {cs : Array Value} {S E : TypeId} {sz : Nat} {Ls : List Lst} {ts : List TypeId} (h : InBag w base cs i S E sz Ls) (ht : Touch ts B w w') (hS : S ∉ ts) (hE : E ∉ ts) : InBag w' base cs i S E sz Ls := by
 obtain ⟨HA, hc, h1, h2⟩ := h.ex
 exact ⟨⟨HA, hc, h1, ht.own h2 hS⟩, h.few, h.fam.touch ht hE, h.len⟩
end Go.Proofs.YtofgmijmhpmabaaGreatDoor.G
