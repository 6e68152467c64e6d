/- The contract of code.row: a row of instructions, read. -/
import Derived.Test.YtfldicaaaadgaaaGreatDoorCLibP
import Derived.Test.YtfldicaaaadgaaaGreatDoorCRow
import Derived.Test.YtfldicaaaadgaaaGreatDoorCNum
import Derived.Test.YtfldicaaaadgaaaGreatDoorWords
import Derived.Maps.RangeWalk
namespace Go.Proofs.YtfldicaaaadgaaaGreatDoor.Code
open Go Go.RowKit
open Go.ChangeMaps (setBlock)
set_option linter.unusedVariables false
set_option linter.unusedSimpArgs false
def esL : List MapEntry := entriesFrom 0 table
def esA : Array MapEntry := esL.toArray
theorem es_born : esL.map (·.born) = List.range 34 := by kernel_rfl
theorem es_hold : ∀ x ∈ esA.toList, x.born < 34 := by
  intro x hx
  have : x.born ∈ esL.map (·.born) := List.mem_map.2 ⟨x, by simpa [esA] using hx, rfl⟩
  rw [es_born] at this
  simpa using this
theorem es_nodup : (esA.toList.map (·.born)).Nodup := by
  have : esA.toList = esL := by simp [esA]
  rw [this, es_born]
  exact List.nodup_range
theorem es_mem : ∀ (l : List (Int × List UInt8 × Int)) (n : Nat) (x : MapEntry), x ∈ entriesFrom n l → ∃ m r, r ∈ l ∧ x = entryOf m r
  | [], _, _, h => by cases h
  | r :: l, n, x, h => by
    rcases List.mem_cons.1 h with rfl | h
    · exact ⟨n, r, by simp, rfl⟩
    · obtain ⟨m, q, h1, h2⟩ := es_mem l (n + 1) x h
      exact ⟨m, q, by simp [h1], h2⟩
theorem es_of : ∀ (l : List (Int × List UInt8 × Int)) (n : Nat) (r : Int × List UInt8 × Int), r ∈ l → ∃ m, entryOf m r ∈ entriesFrom n l
  | [], _, _, h => by cases h
  | q :: l, n, r, h => by
    rcases List.mem_cons.1 h with rfl | h
    · exact ⟨n, by simp [entriesFrom]⟩
    · obtain ⟨m, h1⟩ := es_of l (n + 1) r h
      exact ⟨m, by simp [entriesFrom, h1]⟩
/-- What an entry is called. -/
def nmOf (x : MapEntry) : Value := match x.val with | .agg cs => cs.getD 0 undef | _ => undef
theorem names_apart : (table.map (·.2.1)).Nodup := by decide +kernel
theorem find_name : ∀ (l : List (Int × List UInt8 × Int)) (r : Int × List UInt8 × Int), (l.map (·.2.1)).Nodup → r ∈ l → l.find? (fun q => q.2.1 == r.2.1) = some r
  | [], _, _, h => by cases h
  | q :: l, r, hn, h => by
    have hn2 := List.nodup_cons.1 hn
    rw [List.find?_cons]
    rcases List.mem_cons.1 h with rfl | h
    · simp
    · have : (q.2.1 == r.2.1) = false := by
        rw [beq_eq_false_iff_ne]
        intro e
        exact hn2.1 (List.mem_map.2 ⟨r, h, e.symm⟩)
      rw [this]
      exact find_name l r hn2.2 h
theorem table_bd : table.all (fun r => decide (0 ≤ r.1 ∧ r.1 < 256 ∧ 0 ≤ r.2.2 ∧ r.2.2 ≤ 3)) = true := by decide +kernel
def RowP (s : List UInt8) (w : World) (e : Ending) (w' : World) : Prop :=
  ∃ (x : Ins) (ok : Bool), e = .returned (.tuple #[x.val, .bool ok]) ∧ ((ok = true ∧ rowL s = some x) ∨ (ok = false ∧ rowL s = none)) ∧ Below w.heap.size w w'
theorem rowP_none {s : List UInt8} {w w' : World} {x : Ins} (h : rowL s = none) (hb : Below w.heap.size w w') : RowP s w (.returned (.tuple #[x.val, .bool false])) w' := ⟨x, false, rfl, .inr ⟨rfl, h⟩, hb⟩
theorem rowP_some {s : List UInt8} {w w' : World} {x : Ins} (h : rowL s = some x) (hb : Below w.heap.size w w') : RowP s w (.returned (.tuple #[x.val, .bool true])) w' := ⟨x, true, rfl, .inl ⟨rfl, h⟩, hb⟩
theorem rowL_short {s : List UInt8} (h : (splitC 32 s).length < 2) : rowL s = none := by
  unfold rowL
  match hp : splitC 32 s, h with
  | [], _ => rfl
  | [_], _ => rfl
  | _ :: _ :: _, h => simp at h; omega
theorem rowL_long {s : List UInt8} (h : 2 ≤ (splitC 32 s).length) : rowL s = match table.find? (fun r => r.2.1 == (splitC 32 s).getD 1 []) with | none => none | some r => rowWith r ((splitC 32 s).getD 0 []) ((splitC 32 s).drop 2) := by
  unfold rowL
  match hp : splitC 32 s, h with
  | [], h => simp at h
  | [_], h => simp at h
  | _ :: _ :: _, _ => rfl
/-- The table, its iterator, what was there. -/
structure RowS (w1 wr : World) (bm r : Nat) (seen : Array Nat) (c0 : Nat) : Prop where
  map : wr.heap[bm]? = some (.map esA 34)
  it : wr.heap[r]? = some (.mapIter (some bm) 34 seen c0)
  le : 34 ≤ c0
  bl : Below w1.heap.size w1 wr
/-- What the loop over the table holds. -/
structure RowI (w1 wr : World) (bm r : Nat) (nm : List UInt8) (seen : Array Nat) (c0 : Nat) : Prop extends RowS w1 wr bm r seen c0 where
  no : ∀ m q, q ∈ table → entryOf m q ∈ esL → seen.contains m = true → q.2.1 ≠ nm
theorem rowI_start (W1 : World) (nm : List UInt8) : RowI W1 ((W1.alloc formsMap).alloc (.mapIter (some W1.heap.size) 34 #[] 34)) W1.heap.size (W1.heap.size + 1) nm #[] 34 := by
  refine ⟨⟨?_, ?_, Nat.le_refl _, Bl.al (Bl.al (Below.refl _ _) _) _⟩, fun m q _ _ h => by simp at h⟩
  · rw [heap_alloc_old _ _ (by simp)]
    exact heap_alloc_new W1 formsMap
  · have := heap_alloc_new (W1.alloc formsMap) (.mapIter (some W1.heap.size) 34 #[] 34)
    simpa using this
/-- The pieces, as they were laid. -/
theorem RowS.piece {w W1 wr : World} {bm r : Nat} {seen : Array Nat} {c0 : Nat} {PS : List (List UInt8)} (h : RowS W1 wr bm r seen c0)
    (hW : W1 = (w.alloc (.cells #[.int .i64 0, .int .u8 0, .int .i64 0, .int .i64 0, .int .i64 0] 55)).alloc (.cells (strsL PS).toArray 9)) :
    ∀ j, j < PS.length → wr.cell? ⟨w.heap.size + 1, j, none⟩ = some (.string ⟨(PS.getD j []).toArray⟩) := by
  intro j hj
  have hb : G.Blk W1 (w.heap.size + 1) 9 (strsL PS).toArray := by
    rw [hW]
    have := G.Blk.new (w.alloc (.cells #[.int .i64 0, .int .u8 0, .int .i64 0, .int .i64 0, .int .i64 0] 55)) 9 (strsL PS).toArray
    simpa using this
  rw [(hb.below h.bl hb.lt).cell, List.getElem?_toArray]
  unfold strsL
  rw [List.getElem?_map, List.getElem?_eq_getElem hj, List.getD_eq_getElem?_getD, List.getElem?_eq_getElem hj]
  rfl
/-- The result's cell, as the walk wants it. -/
theorem RowS.frame {w W1 wr : World} {bm r : Nat} {seen : Array Nat} {c0 : Nat} {PS : List (List UInt8)} (h : RowS W1 wr bm r seen c0)
    (hW : W1 = (w.alloc (.cells #[.int .i64 0, .int .u8 0, .int .i64 0, .int .i64 0, .int .i64 0] 55)).alloc (.cells (strsL PS).toArray 9)) :
    (∀ i, wr.cell? ⟨w.heap.size, i, none⟩ = (#[.int .i64 0, .int .u8 0, .int .i64 0, .int .i64 0, .int .i64 0] : Array Value)[i]?) ∧ (∀ i, wr.frozen? ⟨w.heap.size, i, none⟩ = false) ∧ w.heap.size < wr.heap.size := by
  have hb : G.Blk W1 w.heap.size 55 #[.int .i64 0, .int .u8 0, .int .i64 0, .int .i64 0, .int .i64 0] := by
    rw [hW]
    exact (G.Blk.new w _ _).below (G.bl_alloc (Below.refl _ _) _) (by simp)
  have hb2 := hb.below h.bl hb.lt
  exact ⟨hb2.cell, hb2.frozen, hb2.lt⟩
/-- The step of the iterator. -/
theorem rowI_set {W1 wr w2 w3 : World} {nm : List UInt8} {seen : Array Nat} {c0 m : Nat} (h : RowI W1 wr W1.heap.size (W1.heap.size + 1) nm seen c0) (hal : w2 = wr ∨ w2 = wr.drew)
    (hw : w3 = setBlock w2 (W1.heap.size + 1) (.mapIter (some W1.heap.size) 34 (seen.push m) 34)) : RowS W1 w3 W1.heap.size (W1.heap.size + 1) (seen.push m) 34 := by
  have hr : w2.heap[W1.heap.size + 1]? = some (.mapIter (some W1.heap.size) 34 seen c0) := by rcases hal with rfl | rfl <;> exact h.it
  have hm : w2.heap[W1.heap.size]? = some (.map esA 34) := by rcases hal with rfl | rfl <;> exact h.map
  have hb : Below W1.heap.size W1 w2 := by rcases hal with rfl | rfl; exact h.bl; exact h.bl.drew
  have hs := MapKept.heap_set (o' := .mapIter (some W1.heap.size) 34 (seen.push m) 34) hr
  subst hw
  exact ⟨(hs.2 _ (by omega)).trans hm, hs.1, Nat.le_refl _, ⟨hb.os, hb.tape, hb.output, by simp [setBlock]; exact hb.size, fun j hj => (hs.2 j (by omega)).trans (hb.block j hj)⟩⟩
theorem RowS.below {W1 wr w' : World} {bm r : Nat} {seen : Array Nat} {c0 : Nat} (h : RowS W1 wr bm r seen c0) (hb : Below wr.heap.size wr w') : RowS W1 w' bm r seen c0 :=
  ⟨(hb.block bm (Array.getElem?_eq_some_iff.1 h.map).1).trans h.map, (hb.block r (Array.getElem?_eq_some_iff.1 h.it).1).trans h.it, h.le, Bl.tr h.bl hb⟩
theorem RowS.left {W1 wr : World} {bm r : Nat} {seen : Array Nat} {c0 : Nat} (h : RowS W1 wr bm r seen c0) : wr.rangeLeft bm r = (leftOf esA seen).size := by
  simp only [World.rangeLeft, h.map, h.it]
theorem rowI_next {W1 wr w' : World} {bm r m : Nat} {nm nl : List UInt8} {op k : Int} {seen : Array Nat} {c0 : Nat} (h : RowI W1 wr bm r nm seen c0) (hs : RowS W1 w' bm r (seen.push m) 34) (he : entryOf m (op, nl, k) ∈ esL) (hne : nl ≠ nm) :
    RowI W1 w' bm r nm (seen.push m) 34 := by
  refine ⟨hs, fun m' q hq hm hc => ?_⟩
  rw [contains_push] at hc
  rcases Bool.or_eq_true _ _ ▸ hc with h1 | h1
  · exact h.no m' q hq hm h1
  · obtain rfl : m' = m := beq_iff_eq.1 h1
    have hnd : (esL.map (·.born)).Nodup := by rw [es_born]; exact List.nodup_range
    have hx : entryOf m' q = entryOf m' (op, nl, k) := born_inj hnd hm he rfl
    have hv : q.2.1 = nl := by
      have h2 := congrArg (fun x : MapEntry => x.val) hx
      simp [entryOf, strOf] at h2
      exact h2.1
    rw [hv]
    exact hne
theorem rowI_none {W1 wr : World} {bm r : Nat} {nm : List UInt8} {seen : Array Nat} {c0 : Nat} (h : RowI W1 wr bm r nm seen c0) (h0 : (leftOf esA seen).size = 0) : table.find? (fun r => r.2.1 == nm) = none := by
  rw [List.find?_eq_none]
  intro q hq
  obtain ⟨m, hm⟩ := es_of table 0 q hq
  have hs := all_seen esA seen h0 (entryOf m q) (by simpa [esA, esL] using hm)
  simpa using h.no m q hq hm hs
theorem tail_slice (b n : Nat) (hn : 2 ≤ n) : ∃ A2, (∀ W, (Instr.slice 63 (.slice (some ⟨b, 0, none⟩) n n) (some (.int .i64 2)) none none).run Tryz.prog W = .ok (.slice A2 (n - 2) (n - 2)) W) ∧ (2 < n → A2 = some ⟨b, 2, none⟩) := by
  have ht' : Tryz.prog.underlying 63 = some (.slice (Tryz.prog.elem 63)) := by simp [Program.elem, Tryz.underlying63]
  have he : Tryz.prog.elem 63 = 9 := by simp [Program.elem, Tryz.underlying63]
  have hsz : ∀ W, (Go.sizeOf 9).run Tryz.prog W = .ok 1 W := fun W => by kernel_rfl
  refine ⟨if n = 2 then some ⟨b, 0, none⟩ else some ⟨b, 2, none⟩, fun W => ?_, fun h => by rw [if_neg (by omega)]⟩
  rw [run_slice_l W 63 _ _ _ ht' .i64 2 (by omega) (by omega), he, hsz]
  simp [Result.andThen, sliced, Addr.add]
def three (l : List Int) : Array Value := #[.int .i64 (l.getD 0 0), .int .i64 (l.getD 1 0), .int .i64 (l.getD 2 0)]
theorem three_get (l : List Int) {j : Nat} (h : j < 3) : (three l)[j]? = some (.int .i64 (l.getD j 0)) := by
  match j, h with
  | 0, _ => rfl
  | 1, _ => rfl
  | 2, _ => rfl
theorem three_set : ∀ (l : List Int) (j : Nat) (n : Int), l.length = j → j < 3 → (three l).setIfInBounds j (.int .i64 n) = three (l ++ [n])
  | [], 0, n, _, _ => rfl
  | [a], 1, n, _, _ => rfl
  | [a, b], 2, n, _, _ => rfl
  | a :: b :: c :: l, j, n, h, h3 => by simp at h; omega
theorem numsL_snoc : ∀ (l : List (List UInt8)) (m : List Int) (q : List UInt8) (n : Int), numsL l = some m → numL q = some n → numsL (l ++ [q]) = some (m ++ [n])
  | [], m, q, n, h, hq => by
    rw [numsL] at h
    obtain rfl := Option.some.inj h
    rw [List.nil_append, numsL, hq]
    rfl
  | p :: l, m, q, n, h, hq => by
    rw [numsL] at h
    rw [List.cons_append, numsL]
    cases hp : numL p with
    | none => rw [hp] at h; cases h
    | some a =>
      rw [hp] at h
      simp only at h ⊢
      cases hl : numsL l with
      | none => rw [hl] at h; cases h
      | some b =>
        rw [hl] at h
        obtain rfl := Option.some.inj h
        rw [numsL_snoc l b q n hl hq]
        rfl
theorem numsL_len : ∀ (l : List (List UInt8)) (m : List Int), numsL l = some m → m.length = l.length
  | [], m, h => by
    rw [numsL] at h
    obtain rfl := Option.some.inj h
    rfl
  | p :: l, m, h => by
    rw [numsL] at h
    cases hp : numL p with
    | none => rw [hp] at h; cases h
    | some a =>
      rw [hp] at h
      simp only at h
      cases hl : numsL l with
      | none => rw [hl] at h; cases h
      | some b =>
        rw [hl] at h
        obtain rfl := Option.some.inj h
        simp [numsL_len l b hl]
theorem numsL_mem : ∀ (l : List (List UInt8)) (q : List UInt8), q ∈ l → numL q = none → numsL l = none
  | p :: l, q, hm, hq => by
    rw [numsL]
    rcases List.mem_cons.1 hm with rfl | hm
    · rw [hq]
    · rw [numsL_mem l q hm hq]
      cases numL p <;> rfl
theorem numsL_bad {l : List (List UInt8)} {j : Nat} (hj : j < l.length) (hq : numL (l.getD j []) = none) : numsL l = none :=
  numsL_mem l _ (by rw [List.getD_eq_getElem?_getD, List.getElem?_eq_getElem hj]; exact List.getElem_mem _) hq
/-- What the loop over the numbers holds. -/
structure LpI (W1 wr : World) (bm r : Nat) (seen : Array Nat) (L : Nat) (ops : List (List UInt8)) (j : Nat) (lj : List Int) : Prop where
  rs : RowS W1 wr bm r seen 34
  blk : G.Blk wr L 97 (three lj)
  nums : numsL (ops.take j) = some lj
  len : lj.length = j
theorem LpI.below {W1 wr w' : World} {bm r : Nat} {seen : Array Nat} {L : Nat} {ops : List (List UInt8)} {j : Nat} {lj : List Int} (h : LpI W1 wr bm r seen L ops j lj) (hb : Below wr.heap.size wr w') : LpI W1 w' bm r seen L ops j lj :=
  ⟨h.rs.below hb, h.blk.below hb h.blk.lt, h.nums, h.len⟩
theorem LpI.put {W1 wr : World} {bm r : Nat} {seen : Array Nat} {L : Nat} {ops : List (List UInt8)} {j : Nat} {lj : List Int} {n : Int} (h : LpI W1 wr bm r seen L ops j lj) (hL : W1.heap.size ≤ L ∧ L ≠ bm ∧ L ≠ r) (hj : j < ops.length) (h3 : j < 3)
    (hn : numL (ops.getD j []) = some n) : LpI W1 (wr.setCell ⟨L, j, none⟩ (.int .i64 n)) bm r seen L ops (j + 1) (lj ++ [n]) := by
  refine ⟨⟨?_, ?_, h.rs.le, Bl.sc h.rs.bl hL.1 _⟩, ?_, ?_, by simp [h.len]⟩
  · exact (Below.heap_setCell wr ⟨L, j, none⟩ _ bm (fun e => hL.2.1 e.symm)).trans h.rs.map
  · exact (Below.heap_setCell wr ⟨L, j, none⟩ _ r (fun e => hL.2.2 e.symm)).trans h.rs.it
  · have := h.blk.put j (.int .i64 n)
    rwa [three_set _ _ _ h.len h3] at this
  · rw [List.take_succ_eq_append_getElem hj]
    refine numsL_snoc _ _ _ _ h.nums ?_
    rw [← hn, List.getD_eq_getElem?_getD, List.getElem?_eq_getElem hj]
    rfl
theorem nums_len (x : Ins) {k : Int} (hk : 0 ≤ k ∧ k ≤ 3) : (numsOf x k).length = arOf k := by
  unfold numsOf arOf
  split
  · rfl
  · split <;> rfl
set_option maxRecDepth 100000 in
set_option maxHeartbeats 8000000 in
theorem row_any (s : ByteArray) (w0 w : World) (hs : s.size ≤ 16777216) (hL : LibP w0) (hb : Below w0.heap.size w0 w) : Calls Tryz.prog 15 #[.string s] w (RowP s.data.toList w) := by
  have HS := Lib.hid (fun W h => hL.split s 32 W hs (Bl.tr hb h))
  have HN := Lib.hid (fun (q : ByteArray) W (hq : q.size ≤ 16777216) (h : Below w.heap.size w W) => number_any q w0 W hq hL (Bl.tr hb h))
  have hsl : s.data.toList.length = s.size := by simp
  have hpl := splitC_len 32 s.data.toList
  have hpm := splitC_mem 32 s.data.toList
  rw [hsl] at hpl hpm
  have HSH := Lib.hid (fun h => rowL_short (s := s.data.toList) h)
  have HLO := Lib.hid (fun h => rowL_long (s := s.data.toList) h)
  obtain ⟨PS, hPS⟩ : ∃ PS, PS = splitC 32 s.data.toList := ⟨_, rfl⟩
  rw [← hPS] at HS hpl hpm HSH HLO
  have HPM := Lib.hid hpm
  clear hL hb hsl hpm hPS
  go_enter Tryz.func15, Tryz.ntmps15
  go_wp2_with fail
  refine (HS.out _ (Bl.al (Below.refl _ _) _)).mono ?_
  rintro e w1 ⟨rfl, rfl⟩
  by_cases h2 : PS.length < 2
  · have h2I : (PS.length : Int) < 2 := by omega
    have HR := Lib.hid (HSH.out h2)
    go_wp2_with fail
    exact bodyPost_ret (v := .tuple #[zeroIns.val, .bool false]) (by simp [results, Tryz.results15, go_sem, zeroIns, Ins.val]) rfl (rowP_none HR.out (Bl.al (Bl.al (Below.refl _ _) _) _))
  · have h2I : ¬ (PS.length : Int) < 2 := by omega
    have HR := Lib.hid (HLO.out (by omega))
    clear HSH HLO
    obtain ⟨W1, hW1⟩ : ∃ W1, W1 = (w.alloc (.cells #[.int .i64 0, .int .u8 0, .int .i64 0, .int .i64 0, .int .i64 0] 55)).alloc (.cells (strsL PS).toArray 9) := ⟨_, rfl⟩
    have HB1 := Lib.hid (show Below w.heap.size w W1 by rw [hW1]; exact Bl.al (Bl.al (Below.refl _ _) _) _)
    have HW1 := Lib.hid hW1
    clear hW1
    go_wp2_with fail
    rw [← HW1.out]
    refine (forms_any W1).mono ?_
    rintro e w2 ⟨rfl, rfl⟩
    have hrg := run_range_map (P := Tryz.prog) (W1.alloc formsMap) 93 5 72 W1.heap.size esA 34 Tryz.underlying93 (heap_alloc_new W1 formsMap)
    go_wp2_with fail
    have HPL := Lib.hid hpl
    go_loopw [] (fun wr => ∃ seen c0, RowI W1 wr W1.heap.size (W1.heap.size + 1) (PS.getD 1 []) seen c0) (fun wr => wr.rangeLeft W1.heap.size (W1.heap.size + 1))
    case atStart => exact ⟨#[], 34, rowI_start W1 _⟩
    case round =>
      obtain ⟨seen, c0, hri⟩ := hrel
      have HRI := Lib.hid hri
      clear hri
      have HFZ := Lib.hid (HRI.out.frame HW1.out)
      rcases run_next_at (P := Tryz.prog) wr 0 (W1.heap.size + 1) W1.heap.size 34 c0 seen esA 34 HRI.out.it HRI.out.map es_hold HRI.out.le with ⟨h0, hrun⟩ | ⟨e, he, w2, hal, hrun⟩
      · have hnx : ∀ ty, (Instr.next (.pointer (some ⟨W1.heap.size + 1, 0, none⟩)) false ty).run Tryz.prog wr = _ := fun _ => hrun
        have HNO := Lib.hid (rowI_none HRI.out h0)
        obtain ⟨hc1, hf1, hz⟩ := HFZ.out
        go_wp2_with fail
        exact bodyPost_ret (v := .tuple #[zeroIns.val, .bool false]) (by simp [results, Tryz.results15, go_sem, zeroIns, Ins.val, hc1, hz]) rfl
          (rowP_none (by rw [HR.out, HNO.out]) (by repeat (first | (with_reducible refine Bl.sc ?_ (by simp) _) | (with_reducible exact Bl.tr HB1.out HRI.out.bl))))
      · obtain ⟨hem, hes⟩ := mem_left he
        obtain ⟨m, ⟨op, nl, k⟩, hrt, rfl⟩ := es_mem table 0 e (by simpa [esA, esL] using hem)
        obtain ⟨w3, hw3⟩ : ∃ w3, w3 = setBlock w2 (W1.heap.size + 1) (.mapIter (some W1.heap.size) 34 (seen.push m) 34) := ⟨_, rfl⟩
        have HS3 := Lib.hid (rowI_set HRI.out hal hw3)
        have hen := run_entry_at (P := Tryz.prog) w3 (W1.heap.size + 1) W1.heap.size 34 seen esA 34 (entryOf m (op, nl, k)) HS3.out.it HS3.out.map hem es_nodup
        have hnx : ∀ ty, (Instr.next (.pointer (some ⟨W1.heap.size + 1, 0, none⟩)) false ty).run Tryz.prog wr = .ok (.tuple #[.bool true, .int .u8 op, .agg #[.string ⟨nl.toArray⟩, .int .i64 k, .nilFunc]]) w3 := fun _ => by rw [hw3]; exact hrun
        have hen2 : (Instr.entry (.pointer (some ⟨W1.heap.size + 1, 0, none⟩))).run Tryz.prog w3 = .ok (.tuple #[.int .u8 op, .agg #[.string ⟨nl.toArray⟩, .int .i64 k, .nilFunc]]) w3 := hen
        have HEM := Lib.hid (show entryOf m (op, nl, k) ∈ esL by simpa [esA] using hem)
        have HRT := Lib.hid hrt
        have HLS := Lib.hid (show (leftOf esA (seen.push m)).size < (leftOf esA seen).size from left_shrinks esA seen (entryOf m (op, nl, k)) he)
        clear hen hrun hem he hw3 hal hes hrt
        have HP := Lib.hid (HS3.out.piece HW1.out)
        have hp1 := HP.out 1 (by omega)
        have hz3 : w.heap.size + 1 < w3.heap.size := World.block_lt_of_cell? _ _ hp1
        obtain ⟨NL, hNL⟩ : ∃ NL : ByteArray, NL = ⟨nl.toArray⟩ := ⟨_, rfl⟩
        obtain ⟨N1, hN1⟩ : ∃ N1 : ByteArray, N1 = ⟨(PS.getD 1 []).toArray⟩ := ⟨_, rfl⟩
        rw [← hNL] at hnx hen2
        rw [← hN1] at hp1
        by_cases hnm : nl = PS.getD 1 []
        · have HNM := Lib.hid hnm
          obtain rfl : NL = N1 := by rw [hNL, hN1, hnm]
          clear hnm hNL hN1
          go_wp2_with fail
          go_quiet (fail)
          obtain ⟨w4, hw4⟩ : ∃ w4, w4 = (w3.alloc (.cells #[.string NL, .int .i64 k, .nilFunc] 72)).drewN nq := ⟨_, rfl⟩
          have hb34 : Below w3.heap.size w3 w4 := by rw [hw4]; exact Bl.dn (Bl.al (Below.refl _ _) _) _
          have HS4 := Lib.hid (HS3.out.below hb34)
          have HBF := Lib.hid (show G.Blk w4 w3.heap.size 72 #[.string NL, .int .i64 k, .nilFunc] by rw [hw4]; exact (G.Blk.new w3 _ _).below (Bl.dn (Below.refl _ _) _) (by simp))
          obtain ⟨F, hF⟩ : ∃ F, F = w3.heap.size := ⟨_, rfl⟩
          rw [← hF] at HBF
          rw [← hw4, ← hF]
          clear hp1 hw4 hb34 hF hnx hen2 hz3
          have hfind : table.find? (fun r => r.2.1 == PS.getD 1 []) = some (op, nl, k) := by
            rw [← HNM.out]
            exact find_name table (op, nl, k) names_apart HRT.out
          have HRW := Lib.hid (show rowL s.data.toList = rowWith (op, nl, k) (PS.getD 0 []) (PS.drop 2) by rw [HR.out, hfind])
          have hbd : 0 ≤ k ∧ k ≤ 3 := by
            have := List.all_eq_true.1 table_bd _ HRT.out
            simp at this
            omega
          clear hfind
          have hp0 := HS4.out.piece HW1.out 0 (by omega)
          obtain ⟨Q0, hQ0⟩ : ∃ Q0 : ByteArray, Q0 = ⟨(PS.getD 0 []).toArray⟩ := ⟨_, rfl⟩
          rw [← hQ0] at hp0
          have hq0 : Q0.size ≤ 16777216 := by
            have h1 := HPM.out (PS.getD 0 []) (by rw [List.getD_eq_getElem?_getD, List.getElem?_eq_getElem (show 0 < PS.length by omega)]; exact List.getElem_mem _)
            rw [hQ0]
            show (PS.getD 0 []).length ≤ _
            omega
          have HQ0 := Lib.hid (show Q0.data.toList = PS.getD 0 [] by rw [hQ0])
          have HNC := Lib.hid (HN.out Q0 w4 hq0 (Bl.tr HB1.out HS4.out.bl))
          clear hQ0 hq0
          go_wp2_with fail
          refine HNC.out.mono ?_
          rintro e w5 ⟨n0, rfl, hn0, hb5⟩
          have HS5 := Lib.hid (HS4.out.below hb5)
          have HBF5 := Lib.hid (HBF.out.below hb5 HBF.out.lt)
          rw [HQ0.out] at hn0
          rw [HQ0.out]
          clear hb5 hp0
          cases hn : numL (PS.getD 0 []) with
          | none =>
            have HNONE := Lib.hid (show rowL s.data.toList = none by rw [HRW.out]; unfold rowWith; rw [hn])
            clear hn hn0
            obtain ⟨hc1, hf1, hz⟩ := HS5.out.frame HW1.out
            simp only [Option.isSome_none]
            go_wp2_with fail
            exact bodyPost_ret (v := .tuple #[zeroIns.val, .bool false]) (by simp [results, Tryz.results15, go_sem, zeroIns, Ins.val, hc1, hz]) rfl
              (rowP_none HNONE.out (by repeat (first | (with_reducible refine Bl.sc ?_ (by simp) _) | (with_reducible apply Bl.al) | (with_reducible exact Bl.tr HB1.out HS5.out.bl))))
          | some a0 =>
            obtain rfl := hn0 a0 hn
            have HA0 := Lib.hid hn
            clear hn hn0
            simp only [Option.isSome_some]
            have hk1 := HBF5.out.cell 1
            simp only [List.getElem?_toArray, List.getElem?_cons_succ, List.getElem?_cons_zero] at hk1
            have HNB := Lib.hid (fun W => numbers_any zeroIns k W)
            have HAR := Lib.hid (nums_len (⟨0, 0, 0, 0, 0⟩ : Ins) hbd)
            have hFlt := HBF5.out.lt
            unfold Ins.val zeroIns at HNB
            go_wp2_with fail
            refine (HNB.out _).mono ?_
            rintro e w6 ⟨v6, rfl, ho6, hb6⟩
            obtain ⟨a6, c6, rfl⟩ := G.own_shape ho6
            rw [HAR.out]
            have HBL := Lib.hid (show G.Blk w6 w5.heap.size 97 #[.int .i64 0, .int .i64 0, .int .i64 0] from (G.Blk.new w5 _ _).below hb6 (by simp))
            have hb56 := Bl.tr (Bl.al (Below.refl _ w5) _) hb6
            have HS6 := Lib.hid (HS5.out.below hb56)
            clear hb6 ho6 hk1 hFlt hb56
            obtain ⟨hc1, hf1, hz⟩ := HS6.out.frame HW1.out
            by_cases har : PS.length = arOf k + 2
            · have hne : (((PS.length : Int) - 2) == (arOf k : Int)) = true := by rw [beq_iff_eq]; omega
              obtain ⟨A2, hsl, hA2⟩ := tail_slice (w.heap.size + 1) PS.length (by omega)
              have HA2 := Lib.hid hA2
              have hpl2 : PS.length - 2 = arOf k := by omega
              have HOL := Lib.hid (show (PS.drop 2).length = arOf k by rw [List.length_drop]; omega)
              have HAK := Lib.hid (show arOf k ≤ 3 by unfold arOf; split; omega; split <;> omega)
              have HLNE := Lib.hid (show W1.heap.size ≤ w5.heap.size ∧ w5.heap.size ≠ W1.heap.size ∧ w5.heap.size ≠ W1.heap.size + 1 by
                have h1 := HS5.out.bl.size
                have h2 := (Array.getElem?_eq_some_iff.1 HS5.out.map).1
                have h3 := (Array.getElem?_eq_some_iff.1 HS5.out.it).1
                omega)
              rw [hpl2] at hsl
              have HHAR := Lib.hid har
              obtain ⟨ar, har2⟩ : ∃ ar, ar = arOf k := ⟨_, rfl⟩
              have HARK := Lib.hid har2
              rw [← har2] at HOL HAK hsl hpl2 hne HHAR
              rw [← har2]
              clear hA2 har har2 hc1 hf1 hz
              go_wp2_with fail
              have hbb : ((PS.length : Int) - 2 != (ar : Int)) = false := by rw [bne, hne]; rfl
              simp only [hbb]
              clear hne hpl2 hbb
              go_loopw [57] (fun i wr => ∃ (j : Nat) (lj : List Int), i = .int .i64 j ∧ j ≤ ar ∧ LpI W1 wr W1.heap.size (W1.heap.size + 1) (seen.push m) w5.heap.size (PS.drop 2) j lj) (fun i _ => ar - (intOf i).toNat)
              case atStart => exact ⟨0, [], rfl, Nat.zero_le _, ⟨HS6.out, HBL.out, rfl, rfl⟩⟩
              case round =>
                obtain ⟨j, lj, rfl, hj, hlp⟩ := hrel
                have HLP := Lib.hid hlp
                clear hlp
                by_cases hlt : j < ar
                · have hjI : (j : Int) < ar := by omega
                  obtain rfl := HA2.out (by have := HHAR.out; omega)
                  have hak := HAK.out
                  obtain ⟨Q, hQ⟩ : ∃ Q : ByteArray, Q = ⟨(PS.getD (2 + j) []).toArray⟩ := ⟨_, rfl⟩
                  have hpj := HLP.out.rs.piece HW1.out (2 + j) (by have := HHAR.out; omega)
                  rw [← hQ] at hpj
                  have hq : Q.size ≤ 16777216 := by
                    have h0 := HHAR.out
                    have h1 := HPM.out (PS.getD (2 + j) []) (by rw [List.getD_eq_getElem?_getD, List.getElem?_eq_getElem (show 2 + j < PS.length by omega)]; exact List.getElem_mem _)
                    rw [hQ]
                    show (PS.getD (2 + j) []).length ≤ _
                    have := HPL.out
                    omega
                  have HQ := Lib.hid (show Q.data.toList = (PS.drop 2).getD j [] by rw [hQ]; simp [List.getD_eq_getElem?_getD])
                  have HNC := Lib.hid (HN.out Q wr hq (Bl.tr HB1.out HLP.out.rs.bl))
                  clear hQ hq
                  go_wp2_with fail
                  refine HNC.out.mono ?_
                  rintro e w7 ⟨n1, rfl, hn1, hb7⟩
                  have HLP7 := Lib.hid (HLP.out.below hb7)
                  rw [HQ.out] at hn1
                  rw [HQ.out]
                  clear hb7 hpj
                  cases hn : numL ((PS.drop 2).getD j []) with
                  | none =>
                    have HNONE := Lib.hid (show rowL s.data.toList = none by
                      rw [HRW.out]
                      unfold rowWith
                      rw [HA0.out, numsL_bad (by rw [HOL.out]; exact hlt) hn]
                      simp)
                    clear hn hn1
                    obtain ⟨hc1, hf1, hz⟩ := HLP7.out.rs.frame HW1.out
                    simp only [Option.isSome_none]
                    go_wp2_with fail
                    exact bodyPost_ret (v := .tuple #[zeroIns.val, .bool false]) (by simp [results, Tryz.results15, go_sem, zeroIns, Ins.val, hc1, hz]) rfl
                      (rowP_none HNONE.out (by repeat (first | (with_reducible refine Bl.sc ?_ (by simp) _) | (with_reducible apply Bl.al) | (with_reducible exact Bl.tr HB1.out HLP7.out.rs.bl))))
                  | some b0 =>
                    obtain rfl := hn1 b0 hn
                    have HB0 := Lib.hid hn
                    clear hn hn1
                    simp only [Option.isSome_some]
                    have hcj := HLP7.out.blk.cell j
                    have hfj := HLP7.out.blk.frozen j
                    have hlz := HLP7.out.blk.lt
                    have hj3 : (j : Int) < 3 := by omega
                    rw [three_get _ (show j < 3 by omega)] at hcj
                    go_wp2_with fail
                    go_roundw
                    case rel => exact ⟨j + 1, lj ++ [n1], by go_num, by omega, HLP7.out.put HLNE.out (by rw [HOL.out]; exact hlt) (by omega) HB0.out⟩
                    case measure => simp [intOf]; omega
                · have hje : j = ar := by omega
                  have hjI : ¬ (j : Int) < ar := by omega
                  obtain ⟨hc1, hf1, hz⟩ := HLP.out.rs.frame HW1.out
                  have hd0 := HLP.out.blk.cell 0
                  have hd1 := HLP.out.blk.cell 1
                  have hd2 := HLP.out.blk.cell 2
                  simp only [three, List.getElem?_toArray, List.getElem?_cons_succ, List.getElem?_cons_zero] at hd0 hd1 hd2
                  have HSOME := Lib.hid (show rowL s.data.toList = some (insOf n0 op lj) by
                    have hnl := HLP.out.nums
                    rw [List.take_of_length_le (by rw [HOL.out]; omega)] at hnl
                    rw [HRW.out]
                    unfold rowWith
                    rw [HA0.out, hnl]
                    simp only
                    rw [if_neg (by rw [← HARK.out]; exact fun h => h HOL.out)])
                  go_wp2_with fail
                  exact bodyPost_ret (v := .tuple #[(insOf n0 op lj).val, .bool true]) (by simp [results, Tryz.results15, go_sem, insOf, Ins.val, hc1, hz]) rfl
                    (rowP_some HSOME.out (by repeat (first | (with_reducible refine Bl.sc ?_ (by simp) _) | (with_reducible apply Bl.al) | (with_reducible exact Bl.tr HB1.out HLP.out.rs.bl))))
            · have hne : (((PS.length : Int) - 2) == (arOf k : Int)) = false := by rw [beq_eq_false_iff_ne]; omega
              have HNONE := Lib.hid (show rowL s.data.toList = none by
                rw [HRW.out]
                unfold rowWith
                rw [HA0.out]
                simp only
                rw [if_pos (by rw [List.length_drop]; omega)])
              go_wp2_with fail
              exact bodyPost_ret (v := .tuple #[zeroIns.val, .bool false]) (by simp [results, Tryz.results15, go_sem, zeroIns, Ins.val, hc1, hz]) rfl
                (rowP_none HNONE.out (by repeat (first | (with_reducible refine Bl.sc ?_ (by simp) _) | (with_reducible apply Bl.al) | (with_reducible exact Bl.tr HB1.out HS6.out.bl))))
        · have hne : (NL.toList == N1.toList) = false := by
            rw [hNL, hN1, ByteArray.toList_eq, ByteArray.toList_eq]
            simpa using hnm
          have HNM := Lib.hid hnm
          clear hnm hNL hN1
          go_wp2_with fail
          go_quiet (fail)
          go_wp2_with fail
          go_roundw
          case rel => exact ⟨seen.push m, 34, rowI_next HRI.out (HS3.out.below (Bl.dn (Bl.al (Below.refl _ _) _) _)) HEM.out HNM.out⟩
          case measure =>
            rw [(HS3.out.below (Bl.dn (Bl.al (Below.refl _ _) _) _)).left, HRI.out.left]
            exact HLS.out
end Go.Proofs.YtfldicaaaadgaaaGreatDoor.Code
