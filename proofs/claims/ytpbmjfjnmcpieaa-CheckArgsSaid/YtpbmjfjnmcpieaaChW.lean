/- The contracts of package word and of slices.Concat, bytes.Clone, bytes.Equal for Check (picked by pick.py out of CtrA, Cat, PkA, PkC, PkE, PkG, PkH, ShaG), and word.Row.Num. -/
import Derived.Test.YtpbmjfjnmcpieaaChG
import Derived.Deep.AppendLies
import Derived.Lib.AppendZerosOnto
import Derived.Lib.Walk
import Derived.ArgAppend
set_option linter.unusedVariables false
set_option linter.unusedSimpArgs false
namespace Go.Proofs.Ytpbmjfjnmcpieaa
open Go Go.RowKit
/-- all but one block -/
def Save (B m : Nat) (w w' : World) : Prop := Below B w w' ∧ ∀ k, k < w.heap.size → k ≠ m → w'.heap[k]? = w.heap[k]?
theorem Save.refl (B m : Nat) (w : World) : Save B m w w := ⟨Below.refl _ _, fun _ _ _ => rfl⟩
theorem Save.trans {B m : Nat} {a b c : World} (h : Save B m a b) (k : Save B m b c) : Save B m a c :=
  ⟨h.1.trans k.1, fun i hi hne => (k.2 i (Nat.lt_of_lt_of_le hi h.1.size) hne).trans (h.2 i hi hne)⟩
theorem Save.of_below {B m : Nat} {a b : World} (h : Below a.heap.size a b) (hB : B ≤ a.heap.size) : Save B m a b := ⟨h.mono hB, fun k hk _ => h.block k hk⟩
theorem Save.setCell {B m : Nat} {a b : World} (h : Save B m a b) (hB : B ≤ m) (o : Nat) (v : Value) : Save B m a (b.setCell ⟨m, o, none⟩ v) :=
  ⟨h.1.setCell hB _, fun k hk hne => (Below.heap_setCell _ _ _ _ (by simpa using hne)).trans (h.2 k hk hne)⟩
theorem Save.drew {B m : Nat} {a b : World} (h : Save B m a b) : Save B m a b.drew := ⟨h.1.drew, h.2⟩
theorem Save.mono {B B' m : Nat} {a b : World} (h : Save B m a b) (hB : B' ≤ B) : Save B' m a b := ⟨h.1.mono hB, h.2⟩
set_option maxHeartbeats 1000000 in
theorem up_c (n v k : Nat) (hv : v < 18446744073709551616) (hk : k < 8) (K : Int) (hK : K = k) (w : World) :
    Calls Try.prog 77 #[.agg #[.int .i64 (n : Int), .int .u64 (v : Int)], .int .i64 K] w fun e w' => e = .returned (.int .u8 ((upB v k : Nat) : Int)) ∧ Below w.heap.size w w' := by
  subst hK
  go_enter Try.func77, Try.ntmps77
  go_wp2
  go_ret
  exact ⟨ret_i (by unfold upB; simp), (Below.refl _ _).alloc (Nat.le_refl _) _⟩
set_option maxRecDepth 100000 in
set_option maxHeartbeats 2000000 in
theorem grow_c (n : Nat) (h0 : 0 < n) (hn : n ≤ 4294967296) (w : World) :
    Calls Try.prog 81 #[.slice none 0 0, .int .i64 (n : Int)] w fun e w' => ∃ G, e = .returned (.slice (some ⟨w.heap.size, 0, none⟩) 0 G) ∧ w'.ownsRow w.heap.size 5 1 (.slice (some ⟨w.heap.size, 0, none⟩) 0 G) 0 [] ∧ Below w.heap.size w w' := by
  obtain ⟨i0, hi0, hzz⟩ := Option.map_eq_some_iff.1 u8info
  simp only [Prod.mk.injEq] at hzz
  obtain ⟨hz0, hs0, hb0⟩ := hzz
  have hold : (Builtin.firstCells i0.size 0 (.slice none 0 0)).run Try.prog w.drew = .ok #[] w.drew := run_firstCells_none w.drew i0.size 0 0 0
  have hg : (0 : Nat) < 0 + n := by omega
  have hrz : ∀ ty, (Builtin.append_ #[34, 3] ty #[.slice none 0 0, .int .i64 (n : Int)]).run Try.prog w =
      .ok (.slice (some ⟨w.heap.size, 0, none⟩) n (grownCap w n 0 5)) (w.drew.alloc (.cells (#[] ++ Builtin.zeroCells #[.int .u8 0] n ++ Builtin.zeroCells #[.int .u8 0] (grownCap w n 0 5 - n)) 5)) := fun ty => by
    have h := Lib.run_append_grow_zeros w 34 3 ty 5 i0 (.int .u8 0) .i64 .i64 Try.underlying34 Try.underlying3 hi0 hz0 none 0 0 [] hold n h0 (by omega) (by omega) (by omega) (by rw [hb0]; omega)
      (growslice_fits (by omega) (by rw [hb0]; omega))
    rw [Nat.zero_add] at h
    exact h
  have hGn : n ≤ grownCap w n 0 5 := grownCap_ge w _ _ _
  have hGm := grownCap_le_maxLen w n 0 5 (by unfold maxLen; omega)
  generalize grownCap w n 0 5 = G at *
  have hrow : (w.alloc (.cells (Builtin.zeroCells #[.int .u8 0] n ++ Builtin.zeroCells #[.int .u8 0] (G - n)) 5)).drew.ownsRow w.heap.size 5 1 (.slice (some ⟨w.heap.size, 0, none⟩) 0 G) 0 [] :=
    (World.ownsRow_made w (Builtin.zeroCells #[.int .u8 0] n ++ Builtin.zeroCells #[.int .u8 0] (G - n)) G (by omega) hGm (by simp [size_zeroCells]; omega) : _)
  have HROW := Lib.hid hrow
  clear hold hrow hi0 hz0 hs0 hb0
  have hG63 : G ≤ 9223372036854775807 := by unfold maxLen at hGm; omega
  have h4 : ¬ ((n : Int) < 0) := by omega
  go_enter Try.func81, Try.ntmps81
  go_wp2_with (at_builtin; refine Lib.wpList_append_run _ rfl _ _ _ _ rfl _ _ rfl rfl _ _ (hrz _) ?_)
  go_ret
  exact ⟨G, rfl, HROW.out, (Below.refl _ _).drew.alloc (Nat.le_refl _) _⟩
theorem add_zero_off (b j : Nat) : (⟨b, 0, none⟩ : Addr).add j = ⟨b, j, none⟩ := by
  unfold Addr.add; split <;> simp_all
theorem own_base {w : World} {base : Nat} {e : TypeId} {size : Nat} {v : Value} {n : Nat} {xs : List Value} (h : w.ownsRow base e size v n xs) (k : Nat) (hk : v.ownBlock = some k) : base ≤ k := by
  obtain ⟨_, h2⟩ := h
  rcases h2 with ⟨rfl, _⟩ | ⟨g, cap, cur, rfl, hg, _⟩
  · simp [Value.ownBlock] at hk
  · simp [Value.ownBlock] at hk; omega
/-- the total length -/
def totL (segs : List (Nat × List Nat)) : Nat := (segs.map (·.2.length)).sum
def catL (segs : List (Nat × List Nat)) : List Nat := (segs.map (·.2)).flatten
theorem totL_succ (segs : List (Nat × List Nat)) (k : Nat) (h : k < segs.length) : totL (segs.take (k + 1)) = totL (segs.take k) + (segs[k]).2.length := by
  unfold totL; rw [List.take_succ_eq_append_getElem h]; simp only [List.map_append, List.sum_append, List.map_cons, List.map_nil, List.sum_cons, List.sum_nil]; omega
theorem catL_succ (segs : List (Nat × List Nat)) (k : Nat) (h : k < segs.length) : catL (segs.take (k + 1)) = catL (segs.take k) ++ (segs[k]).2 := by
  unfold catL; rw [List.take_succ_eq_append_getElem h]; simp only [List.map_append, List.flatten_append, List.map_cons, List.map_nil, List.flatten_cons, List.flatten_nil, List.append_nil]
theorem totL_le (segs : List (Nat × List Nat)) (k : Nat) : totL (segs.take k) ≤ totL segs := by
  have : totL segs = totL (segs.take k) + totL (segs.drop k) := by
    unfold totL; rw [← List.sum_append, ← List.map_append, List.take_append_drop]
  omega
theorem catL_len (segs : List (Nat × List Nat)) : (catL segs).length = totL segs := by
  unfold catL totL; rw [List.length_flatten, List.map_map]; rfl
/-- the row of the slices -/
def segV (s : Nat × List Nat) : Value := .slice (some ⟨s.1, 0, none⟩) s.2.length s.2.length
def segA (segs : List (Nat × List Nat)) : Array Value := (segs.map segV).toArray
theorem segA_get (segs : List (Nat × List Nat)) (k : Nat) (h : k < segs.length) : (segA segs)[k]? = some (segV segs[k]) := by
  unfold segA; simp [h]
def SegsIn (w : World) (segs : List (Nat × List Nat)) : Prop := ∀ s ∈ segs, w.heap[s.1]? = some (.cells (bA s.2) 5 (0, 0))
set_option maxRecDepth 100000 in
set_option maxHeartbeats 2000000 in
theorem concat_c (segs : List (Nat × List Nat)) (bs : Nat) (w : World) (hbs : w.heap[bs]? = some (.cells (segA segs) 34 (0, 0))) (hsegs : SegsIn w segs)
    (h0 : 0 < totL segs) (ht : totL segs ≤ 4294967296) (hlen : segs.length ≤ 4294967296) :
    Calls Try.prog 72 #[.slice (some ⟨bs, 0, none⟩) segs.length segs.length] w
      fun e w' => ∃ v, e = .returned v ∧ w'.ownsRow w.heap.size 5 1 v (totL segs) ((catL segs).map fun (n : Nat) => .int .u8 (n : Int)) ∧ Below w.heap.size w w' := by
  have HBS := Lib.hid hbs
  have HSG := Lib.hid hsegs
  clear hbs hsegs
  go_enter Try.func72, Try.ntmps72
  go_wp2
  go_loop [3, 11] (fun vs vi => ∃ k n : Nat, k ≤ segs.length ∧ vi = .int .i64 k ∧ vs = .int .i64 n ∧ n ≤ totL segs ∧ Hid (n = totL (segs.take k))) (fun _ vi => segs.length - (intOf vi).toNat)
  case atStart => exact ⟨0, 0, by omega, rfl, rfl, by omega, rfl⟩
  case round =>
    obtain ⟨k, n, hk, rfl, rfl, hn, hnt⟩ := hrel
    by_cases hlt : k < segs.length
    · have c0 := (cells_at HBS.out k).trans (segA_get segs k hlt)
      have hsum := totL_succ segs k hlt
      have hle := totL_le segs (k + 1)
      obtain ⟨m, hm⟩ : ∃ m, m = (segs[k]).2.length := ⟨_, rfl⟩
      have c1 : w.cell? ⟨bs, k, none⟩ = some (.slice (some ⟨(segs[k]).1, 0, none⟩) m m) := by rw [c0, segV, hm]
      have hnm : n + m ≤ totL segs := by have := hnt.out; omega
      have HNM : Hid (n + m = totL (segs.take (k + 1))) := by have := hnt.out; show n + m = totL (segs.take (k + 1)); omega
      obtain ⟨b, hb⟩ : ∃ b, b = (segs[k]).1 := ⟨_, rfl⟩
      rw [← hb] at c1
      clear c0 hsum hle hnt hm hb
      have hneg : ¬ ((n : Int) + (m : Int) < 0) := by omega
      go_wp2
      go_round
      case rel => exact ⟨k + 1, n + m, by omega, by go_num, by go_num, hnm, HNM⟩
      case measure => simp [intOf]; omega
    · obtain rfl : k = segs.length := by omega
      obtain rfl : n = totL segs := by have := hnt.out; rw [List.take_length] at this; exact this
      clear hnt hk hlt
      go_wp2_with (go_at_call 81; (with_reducible refine (grow_c _ h0 ht _).mono ?_); rintro e w1 ⟨G, rfl, hown, hbel⟩)
      have hst : w1.ownsRow w.heap.size 5 1 (.slice (some ⟨w.heap.size, 0, none⟩) 0 G) (totL (segs.take 0)) ((catL (segs.take 0)).map fun (n : Nat) => .int .u8 (n : Int)) := hown
      have HST := Lib.hid hst
      have HBEL := Lib.hid hbel
      clear hown hst hbel
      obtain ⟨i0, hi0, hzz⟩ := Option.map_eq_some_iff.1 u8info
      simp only [Prod.mk.injEq] at hzz
      obtain ⟨hz0, hs0, hb0⟩ := hzz
      have HI := Lib.hid hi0
      have HZ := Lib.hid hz0
      have HSZ := Lib.hid hs0
      have HBY := Lib.hid hb0
      clear hi0 hz0 hs0 hb0
      go_loopw [6, 27] (fun v vi wr => ∃ k : Nat, k ≤ segs.length ∧ vi = .int .i64 k ∧ Hid (wr.ownsRow w.heap.size 5 1 v (totL (segs.take k)) ((catL (segs.take k)).map fun (n : Nat) => .int .u8 (n : Int))) ∧ Hid (Below w.heap.size w wr)) (fun _ vi _ => segs.length - (intOf vi).toNat)
      case atStart => exact ⟨0, by omega, rfl, HST, HBEL⟩
      case round =>
        clear HST HBEL
        obtain ⟨k, hk, rfl, hown, hbel⟩ := hrel
        by_cases hlt : k < segs.length
        · have hbs : bs < w.heap.size := lt_of_block HBS.out
          have hblk := (hbel.out.block bs hbs).trans HBS.out
          have c0 := (cells_at hblk k).trans (segA_get segs k hlt)
          have hsum := totL_succ segs k hlt
          have hcat := catL_succ segs k hlt
          have hle := totL_le segs (k + 1)
          have hseg := HSG.out _ (List.getElem_mem hlt)
          have hsb : (segs[k]).1 < w.heap.size := lt_of_block hseg
          have hsw := (hbel.out.block _ hsb).trans hseg
          generalize hsg : segs[k] = sg at *
          obtain ⟨b, l⟩ := sg
          simp only at hsum hcat hsb hsw
          obtain ⟨m, hm⟩ : ∃ m, m = l.length := ⟨_, rfl⟩
          have c1 : wr.cell? ⟨bs, k, none⟩ = some (.slice (some ⟨b, 0, none⟩) m m) := by rw [c0, segV, hm]
          have hnews : ∀ j u, (l.map fun (n : Nat) => Value.int .u8 (n : Int))[j]? = some u → wr.cell? ((⟨b, 0, none⟩ : Addr).add j) = some u := fun j u hj => by
            have : wr.cell? ⟨b, j, none⟩ = some u := by rw [cells_at hsw j]; unfold bA; simpa using hj
            rw [add_zero_off]; exact this
          have h1c : ∀ u ∈ (l.map fun (n : Nat) => Value.int .u8 (n : Int)), u.oneCell' = true := fun u hu => by
            obtain ⟨n, _, rfl⟩ := List.mem_map.1 hu; rfl
          have HN := Lib.hid hnews
          have H1C := Lib.hid h1c
          have hml : (l.map fun (n : Nat) => Value.int .u8 (n : Int)).length = m * 1 := by simp [hm]
          have HML := Lib.hid hml
          have hbound : totL (segs.take k) + m ≤ 4294967296 := by omega
          have HSUM : Hid (totL (segs.take k) + m = totL (segs.take (k + 1))) := by rw [hsum, hm]; exact rfl
          have HCAT := Lib.hid hcat
          have hwz := Lib.hid hbel.out.size
          clear c0 hsum hcat hle hseg hsw hblk hnews h1c hml hm hsg
          go_wp2_with (at_builtin; refine wpList_append_own _ rfl (.tmp 31) (.tmp 32) 34 rfl w.heap.size 5 i0 (.int .u8 0) 1 1 Try.underlying34 HI.out HZ.out HSZ.out HBY.out rfl (by decide) _ _ _ rfl hown.out ⟨b, 0, none⟩ m m (l.map fun (n : Nat) => Value.int .u8 (n : Int)) rfl HML.out HN.out H1C.out (by unfold maxLen; omega) (by omega) hwz.out ?_)
          intro v' w2 hown' hgrow _
          have R1 : Hid (w2.ownsRow w.heap.size 5 1 v' (totL (segs.take (k + 1))) ((catL (segs.take (k + 1))).map fun (n : Nat) => .int .u8 (n : Int))) := by
            rw [← HSUM.out, HCAT.out, List.map_append]; exact hown'
          have R2 := Lib.hid (hbel.out.grown hgrow hwz.out (own_base hown.out))
          clear hown' hgrow hown hbel HN H1C HML
          go_wp2
          go_roundw
          case rel => exact ⟨k + 1, by omega, by go_num, R1, R2⟩
          case measure => simp [intOf]; omega
        · obtain rfl : k = segs.length := by omega
          have R : Hid (wr.ownsRow w.heap.size 5 1 u6 (totL segs) ((catL segs).map fun (n : Nat) => .int .u8 (n : Int))) := by
            have := hown.out; rw [List.take_length] at this; exact this
          clear hown
          go_wp2
          go_ret
          exact ⟨_, rfl, R.out, hbel.out⟩
/-- the lowest n bytes, the lowest first -/
def lowB (n v : Nat) : List Nat := (List.range n).map fun k => upB v k
theorem lowB_len (n v : Nat) : (lowB n v).length = n := by simp [lowB]
theorem lowB_get (n v k : Nat) (h : k < n) : (lowB n v).getD k 0 = upB v k := by simp [lowB, h]
theorem lowB_lt (n v : Nat) : ∀ x ∈ lowB n v, x < 256 := by
  intro x hx
  simp only [lowB, List.mem_map] at hx
  obtain ⟨k, _, rfl⟩ := hx
  exact Nat.mod_lt _ (by decide)
set_option maxRecDepth 100000 in
set_option maxHeartbeats 1000000 in
theorem lbytes_c (n v : Nat) (hv : v < 18446744073709551616) (h1 : 1 ≤ n) (hn : n ≤ 8) (w : World) :
    Calls Try.prog 76 #[.agg #[.int .i64 (n : Int), .int .u64 (v : Int)], .func (.func 77) #[.agg #[.int .i64 (n : Int), .int .u64 (v : Int)]] #[]] w
      fun e w' => ∃ b, e = .returned (.slice (some ⟨b, 0, none⟩) n n) ∧ w.heap.size ≤ b ∧ b < w'.heap.size ∧ w'.heap[b]? = some (.cells (bA (lowB n v)) 5 (0, 0)) ∧ Below w.heap.size w w' := by
  have hmk := mk_bytes n (by omega)
  have hlo : ¬ (n : Int) < 1 := by omega
  have hhi : ¬ (8 : Int) < n := by omega
  have hl := lowB_len n v
  have hs : ∀ o : Obj, ((w.alloc o).alloc (.cells (bA (List.replicate n 0)) 5)).heap[w.heap.size + 1]? = some (.cells (bA (partB (lowB n v) 0)) 5 (0, 0)) := fun o => by
    rw [partB_zero, hl, show w.heap.size + 1 = (w.alloc o).heap.size by simp, heap_new']
  have HS := Lib.hid hs
  have HL := Lib.hid hl
  clear hs hl
  go_enter Try.func76, Try.ntmps76
  go_wp2
  go_loopw [20] (fun vi wr => ∃ k : Nat, k ≤ n ∧ vi = .int .i64 k ∧ Hid (wr.heap[w.heap.size + 1]? = some (.cells (bA (partB (lowB n v) k)) 5 (0, 0))) ∧ w.heap.size + 1 < wr.heap.size ∧ Below w.heap.size w wr) (fun vi _ => n - (intOf vi).toNat)
  case atStart => exact ⟨0, by omega, rfl, HS.out _, by simp, (((Below.refl _ _).alloc (Nat.le_refl _) _).alloc (by simp) _)⟩
  case round =>
    obtain ⟨k, hk, rfl, hb, hz, hbel⟩ := hrel
    clear HS hmk
    by_cases hlt : k < n
    · go_wp2_with (go_at_call 77; (with_reducible refine (up_c n v k hv (by omega) _ rfl _).mono ?_); rintro e w1 ⟨rfl, hb1⟩; have hB1 := (hb1.block (w.heap.size + 1) hz).trans hb.out; have hc1 := (cells_at hB1 k).trans (bA_get _ k (by rw [partB_len _ _ (by rw [HL.out]; omega), HL.out]; exact hlt)); have hf1 := free_at hB1 k; have HB1 := Lib.hid hB1; clear hB1)
      go_roundw
      case rel =>
        have h1 := block_at HB1.out k (.int .u8 ((upB v k : Nat) : Int))
        rw [bA_set, ← lowB_get n v k hlt, partB_set _ _ (by rw [HL.out]; exact hlt)] at h1
        rw [lowB_get n v k hlt] at h1
        exact ⟨k + 1, by omega, by go_num, h1, by have := hb1.size; simp [World.setCell]; omega, (hbel.trans (hb1.mono (by omega))).setCell (by simp) _⟩
      case measure => simp [intOf]; omega
    · obtain rfl : k = n := by omega
      have h1 := hb.out
      have h2 := partB_full (lowB k v)
      rw [HL.out] at h2
      rw [h2] at h1
      have H1 := Lib.hid h1
      clear hb h1 h2
      go_wp2
      go_ret
      exact ⟨_, rfl, by omega, hz, H1.out, hbel⟩
set_option maxRecDepth 100000 in
set_option maxHeartbeats 1000000 in
theorem put_c (n v : Nat) (hv : v < 18446744073709551616) (h1 : 1 ≤ n) (hn : n ≤ 8) (N V : Int) (hN : N = n) (hV : V = v) (w : World) :
    Calls Try.prog 69 #[.int .i64 N, .int .u64 V] w
      fun e w' => ∃ b, e = .returned (.slice (some ⟨b, 0, none⟩) n n) ∧ w.heap.size ≤ b ∧ b < w'.heap.size ∧ w'.heap[b]? = some (.cells (bA (lowB n v)) 5 (0, 0)) ∧ Below w.heap.size w w' := by
  subst hN hV
  go_enter Try.func69, Try.ntmps69
  go_wp2_with fail
  refine (lbytes_c n v hv h1 hn _).mono ?_
  rintro e w1 ⟨b, rfl, hb, hz, hB, hbel⟩
  have HB := Lib.hid hB
  clear hB
  go_wp2
  go_ret
  exact ⟨b, rfl, by simp at hb; omega, hz, HB.out, ((Below.refl _ _).alloc (Nat.le_refl _) _).trans (hbel.mono (by simp))⟩

/-- a row of bytes that a value names -/
def SlAt (w : World) (v : Value) (l : List Nat) : Prop := ∃ a cap, v = .slice a l.length cap ∧ BytesAt w a cap l ∧ (a = none → cap = 0) ∧ l.length ≤ cap ∧ cap ≤ maxLen
/-- rows of bytes behind an address -/
def RowsAt (w : World) (a : Option Addr) (L : List (List Nat)) : Prop := ∀ (i : Nat) (l : List Nat), L[i]? = some l → ∃ g o v, a = some ⟨g, o, none⟩ ∧ g < w.heap.size ∧ w.cell? ⟨g, o + i, none⟩ = some v ∧ SlAt w v l
theorem SlAt.up {w w' : World} {v : Value} {l : List Nat} (h : SlAt w v l) {B : Nat} (hb : Below B w w') (hB : w.heap.size ≤ B) : SlAt w' v l := by
  obtain ⟨a, cap, h1, h2, h3⟩ := h
  exact ⟨a, cap, h1, h2.up hb hB, h3⟩
theorem RowsAt.up {w w' : World} {a : Option Addr} {L : List (List Nat)} (h : RowsAt w a L) {B : Nat} (hb : Below B w w') (hB : w.heap.size ≤ B) : RowsAt w' a L := by
  intro i l hl
  obtain ⟨g, o, v, h1, h2, h3, h4⟩ := h i l hl
  exact ⟨g, o, v, h1, Nat.lt_of_lt_of_le h2 hb.size, (hb.cell (p := ⟨g, o + i, none⟩) (Nat.lt_of_lt_of_le h2 hB)).trans h3, h4.up hb hB⟩
theorem flat_lt {α : Type} (L : List α) (f : α → List Nat) (h : ∀ a ∈ L, ∀ x ∈ f a, x < 256) : ∀ x ∈ L.flatMap f, x < 256 := by
  intro x hx
  rw [List.mem_flatMap] at hx
  obtain ⟨a, ha, hx⟩ := hx
  exact h a ha x hx
theorem app_lt {a b : List Nat} (ha : ∀ x ∈ a, x < 256) (hb : ∀ x ∈ b, x < 256) : ∀ x ∈ a ++ b, x < 256 := fun x hx => (List.mem_append.1 hx).elim (ha x) (hb x)
theorem rowsAt_lt {w : World} {a : Option Addr} {L : List (List Nat)} (h : RowsAt w a L) : ∀ l ∈ L, ∀ x ∈ l, x < 256 := by
  intro l hl
  obtain ⟨k, hk⟩ := List.getElem?_of_mem hl
  obtain ⟨g, o, v, _, _, _, a', c', _, hb, _⟩ := h k l hk
  exact hb.1
theorem bytes_cells {w : World} {g o cap : Nat} {l : List Nat} (hB : BytesAt w (some ⟨g, o, none⟩) cap l) : ∀ j u, (bA l).toList[j]? = some u → w.cell? ⟨g, o + j, none⟩ = some u := by
  intro j u hu
  have hj : j < l.length := by
    have := (List.getElem?_eq_some_iff.1 hu).1; simpa [bA] using this
  obtain ⟨g', o', h1, h2, h3, h4⟩ := hB.2 (by omega)
  cases h1
  rw [h4 j hj]
  rw [Array.getElem?_toList, bA_get l j hj] at hu
  exact hu
/-- append to a full row of bytes: a new row -/
theorem wpList_append_full {w : World} {ops : Array Oper} {rest : List Oper} {o : Oper} {A : Act} {Q : Exit → Act → World → Prop} (hgd : o.guard = none) (s x : Operand)
    (ho : o.op = .call { callee := .builtin .append, args := #[s, x], argTypes := #[34, 34] }) {b n : Nat} {l0 : List Nat} (hs : A.eval s = .slice (some ⟨b, 0, none⟩) n n) (hl0 : l0.length = n) (hB0 : BytesAt w (some ⟨b, 0, none⟩) n l0)
    {g q cap m : Nat} {l : List Nat} (hx : A.eval x = .slice (some ⟨g, q, none⟩) m cap) (hm : l.length = m) (hm0 : 0 < m) (hB : BytesAt w (some ⟨g, q, none⟩) cap l) (h63 : n + m ≤ 1000000)
    (h : ∀ v' w', w'.ownsRow w.heap.size 5 1 v' (n + m) (bA (l0 ++ l)).toList → w.grownBy w' none → wpList Try.prog ops Q rest (A.put o.dst v') w') : wpList Try.prog ops Q (o :: rest) A w :=
  wpList_plain hgd fun _ hK => by
    obtain ⟨i0, hi, hz0, hz1, hz2⟩ := info_parts u8info
    obtain ⟨v', w', h1, h2, h3⟩ := run_append_arg_grows (P := Try.prog) w 34 o.type 5 i0 _ 1 1 Try.underlying34 hi hz0 hz1 hz2 rfl (by omega) ⟨b, 0, none⟩ n n (bA l0).toList (by simp [bA, hl0])
      (fun j u hj => by rw [add_plain]; exact bytes_cells hB0 j u hj) ⟨g, q, none⟩ m cap (bA l).toList (by simp [bA, hm]) (fun j u hj => by rw [add_plain]; exact bytes_cells hB j u hj) (by omega) (by unfold maxLen; omega) (by omega)
    unfold Oper.wp execOp
    simp only [ho, resolve, invoke, builtin, Sem.run_bind, Sem.run_pure, Result.andThen_ok, List.map_toArray, List.map_cons, List.map_nil, hs, hx, h1]
    rw [bA_app] at h2
    exact hK _ _ (h v' w' h2 h3)
theorem slinfo : (Try.prog.info? 34).map (fun i => (i.zero, i.size, i.bytes)) = some (some (.slice none 0 0), 1, 24) := by kernel_rfl
theorem sl_parts : ∃ i, Try.prog.info? 34 = some i ∧ i.zero = some (.slice none 0 0) ∧ i.size = 1 ∧ i.bytes = 24 := by
  obtain ⟨i, hi, h⟩ := Option.map_eq_some_iff.1 slinfo
  simp only [Prod.mk.injEq] at h
  exact ⟨i, hi, h.1, h.2.1, h.2.2⟩
/-- append of one row -/
theorem wpList_append_row {w : World} {ops : Array Oper} {rest : List Oper} {o : Oper} {A : Act} {Q : Exit → Act → World → Prop} (hgd : o.guard = none) (s x : Operand)
    (ho : o.op = .call { callee := .builtin .append, args := #[s, x], argTypes := #[32, 32] }) {base n : Nat} {v : Value} {xs : List Value} (hs : A.eval s = v) (hown : w.ownsRow base 34 1 v n xs)
    {g : Nat} {u : Value} (hx : A.eval x = .slice (some ⟨g, 0, none⟩) 1 1) (hu : w.cell? ⟨g, 0, none⟩ = some u) (h1 : u.oneCell' = true) (h63 : n + 1 ≤ 1000000) (hbase : base ≤ w.heap.size)
    (h : ∀ v' w', w'.ownsRow base 34 1 v' (n + 1) (xs ++ [u]) → w.grownBy w' v.ownBlock → wpList Try.prog ops Q rest (A.put o.dst v') w') : wpList Try.prog ops Q (o :: rest) A w :=
  wpList_plain hgd fun _ hK => by
    obtain ⟨i0, hi, hz0, hz1, hz2⟩ := sl_parts
    obtain ⟨v', w', h1, h2, h3, _⟩ := run_append_own_at (P := Try.prog) w base 32 o.type 34 i0 _ 1 24 Try.underlying32 hi hz0 hz1 hz2 rfl (by omega) v n xs hown ⟨g, 0, none⟩ 1 1 [u] rfl
      (fun j y hj => by
        have hj0 : j = 0 := by have := (List.getElem?_eq_some_iff.1 hj).1; simpa using this
        subst hj0
        rw [add_plain]
        exact hu.trans hj) (by simpa using h1) (by unfold maxLen; omega) (by omega) hbase
    unfold Oper.wp execOp
    simp only [ho, resolve, invoke, builtin, Sem.run_bind, Sem.run_pure, Result.andThen_ok, List.map_toArray, List.map_cons, List.map_nil, hs, hx, h1]
    exact hK _ _ (h v' w' h2 h3)
/-- values that name rows of bytes -/
def RowsV (w : World) (xs : List Value) (L : List (List Nat)) : Prop := xs.length = L.length ∧ ∀ (i : Nat) (l : List Nat), L[i]? = some l → ∃ u, xs[i]? = some u ∧ SlAt w u l
theorem rowsV_nil (w : World) : RowsV w [] [] := ⟨rfl, fun i l h => by cases h⟩
theorem RowsV.snoc {w : World} {xs : List Value} {L : List (List Nat)} (h : RowsV w xs L) {u : Value} {l : List Nat} (hu : SlAt w u l) : RowsV w (xs ++ [u]) (L ++ [l]) := by
  refine ⟨by simp [h.1], fun i m hm => ?_⟩
  rcases Nat.lt_or_ge i L.length with hi | hi
  · rw [List.getElem?_append_left hi] at hm
    obtain ⟨v, h1, h2⟩ := h.2 i m hm
    exact ⟨v, by rw [List.getElem?_append_left (by rw [h.1]; exact hi)]; exact h1, h2⟩
  · have hi2 : i = L.length := by
      have := (List.getElem?_eq_some_iff.1 hm).1; simp at this; omega
    subst hi2
    simp at hm
    subst hm
    exact ⟨u, by rw [← h.1]; simp, hu⟩
theorem RowsV.up {w w' : World} {xs : List Value} {L : List (List Nat)} (h : RowsV w xs L) {B : Nat} (hb : Below B w w') (hB : w.heap.size ≤ B) : RowsV w' xs L := by
  refine ⟨h.1, fun i l hl => ?_⟩
  obtain ⟨u, h1, h2⟩ := h.2 i l hl
  exact ⟨u, h1, h2.up hb hB⟩
theorem rowsAt_of {w : World} {base n : Nat} {a : Option Addr} {c : Nat} {xs : List Value} {L : List (List Nat)} (hown : w.ownsRow base 34 1 (.slice a n c) n xs) (h : RowsV w xs L) : L.length = n ∧ RowsAt w a L := by
  have hn : xs.length = n := by have := hown.1; simpa using this
  refine ⟨by rw [← h.1, hn], fun i l hl => ?_⟩
  obtain ⟨u, h1, h2⟩ := h.2 i l hl
  have hi : i < n := by have := (List.getElem?_eq_some_iff.1 h1).1; omega
  rcases hown.2 with ⟨h3, h4⟩ | ⟨g, cap, cur, h3, h4, h5, h6⟩
  · omega
  · injection h3 with h3 _ _
    subst h3
    refine ⟨g, 0, u, rfl, lt_of_block h5, ?_, h2⟩
    have := hown
    rw [cells_at h5 (0 + i), Nat.zero_add]
    have h7 := congrArg (fun l => l[i]?) h6.2.2.2
    simp only [Nat.mul_one] at h7
    rw [List.getElem?_take_of_lt hi, Array.getElem?_toList] at h7
    rw [h7]; exact h1
theorem SlAt.one {w : World} {v : Value} {l : List Nat} (h : SlAt w v l) : v.oneCell' = true := by
  obtain ⟨a, cap, rfl, _⟩ := h; rfl
/-- a row of bytes in a block below B -/
def SlB (w : World) (B : Nat) (v : Value) (l : List Nat) : Prop := ∃ a cap, v = .slice a l.length cap ∧ BytesAt w a cap l ∧ (a = none → cap = 0) ∧ l.length ≤ cap ∧ cap ≤ maxLen ∧ ∀ p, a = some p → p.block < B ∧ p.spot = none
theorem SlB.up {w w' : World} {B : Nat} {v : Value} {l : List Nat} (h : SlB w B v l) (hb : Below B w w') : SlB w' B v l := by
  obtain ⟨a, cap, h1, h2, h3, h4, h5, h6⟩ := h
  exact ⟨a, cap, h1, bytes_keep h2 (fun g o e hg => hb.block g (h6 _ e).1), h3, h4, h5, h6⟩
theorem SlB.at {w : World} {B : Nat} {v : Value} {l : List Nat} (h : SlB w B v l) : SlAt w v l := by
  obtain ⟨a, cap, h1, h2, h3, h4, h5, _⟩ := h
  exact ⟨a, cap, h1, h2, h3, h4, h5⟩
/-- a row that is read: what is left, the error -/
def RowIs (w : World) (rb : Nat) (l : List Nat) (err : Int) : Prop := ∃ v, w.heap[rb]? = some (.cells #[v, .int .i64 err] 117 (0, 0)) ∧ SlB w rb v l
def nextN (n : Nat) (l : List Nat) (err : Int) : List Nat := if err = 0 then (if l.length < n then [] else l.take n) else []
def restN (n : Nat) (l : List Nat) (err : Int) : List Nat := if err = 0 then (if l.length < n then l else l.drop n) else l
def errN (n : Nat) (l : List Nat) (err : Int) : Int := if err = 0 then (if l.length < n then 3 else 0) else err
theorem slB_nil (w : World) (B : Nat) : SlB w B (.slice none 0 0) [] := ⟨none, 0, rfl, ⟨(fun x h => by cases h), (fun h => by cases h)⟩, (fun _ => rfl), Nat.le_refl _, Nat.zero_le _, (fun p h => by cases h)⟩
theorem RowIs.set {w : World} {rb : Nat} {v v' : Value} {err err' : Int} {l l' : List Nat} (h : w.heap[rb]? = some (.cells #[v, .int .i64 err] 117 (0, 0))) {w' : World} (h' : w'.heap[rb]? = some (.cells #[v', .int .i64 err'] 117 (0, 0))) (hs : SlB w rb v' l') (hb : Below rb w w') : RowIs w' rb l' err' := ⟨v', h', hs.up hb⟩
theorem Save.cell (w : World) (m o : Nat) (v : Value) : Save m m w (w.setCell ⟨m, o, none⟩ v) := (Save.refl m m w).setCell (Nat.le_refl _) o v
set_option maxRecDepth 100000 in
set_option maxHeartbeats 2000000 in
theorem next_c (rb n : Nat) (hn : n ≤ 70000) (N : Int) (hN : N = n) (l : List Nat) (hl : l.length ≤ 1000000) (err : Int) (w : World) (h : RowIs w rb l err) :
    Calls Try.prog 66 #[.pointer (some ⟨rb, 0, none⟩), .int .i64 N] w fun e w' => (∃ v, e = .returned v ∧ SlB w' rb v (nextN n l err)) ∧ RowIs w' rb (restN n l err) (errN n l err) ∧ Save rb rb w w' := by
  subst hN
  obtain ⟨v, hblk, hsl⟩ := id h
  obtain ⟨a, cap, rfl, hb, hnil, hlc, hcm, hab⟩ := id hsl
  obtain ⟨ln, hln⟩ : ∃ ln, ln = l.length := ⟨_, rfl⟩
  rw [← hln] at hblk hlc
  have c0 := (cells_at hblk 0).trans (show _ = some (Value.slice a ln cap) from rfl)
  have c1 := (cells_at hblk 1).trans (show _ = some (Value.int .i64 err) from rfl)
  have f0 := free_at hblk 0
  have f1 := free_at hblk 1
  have HBLK := Lib.hid hblk
  have HSL : Hid (SlB w rb (.slice a ln cap) l) := by show SlB _ _ _ _; rw [hln]; exact hsl
  have HH := Lib.hid h
  by_cases he : err = 0
  · subst he
    by_cases hlt : l.length < n
    · have d1 : decide ((n : Int) > (ln : Int)) = true := by simp; omega
      have hx : ln < n := by omega
      have d0 : decide ((n : Int) < 0) = false := by simp
      have h1 : nextN n l 0 = [] := by simp [nextN, hlt]
      have h2 : restN n l 0 = l := by simp [restN, hlt]
      have h3 : errN n l 0 = 3 := by simp [errN, hlt]
      rw [h1, h2, h3]
      have nb := block_at hblk 1 (.int .i64 3)
      have NB : Hid ((w.setCell ⟨rb, 1, none⟩ (.int .i64 3)).heap[rb]? = some (.cells #[.slice a ln cap, .int .i64 3] 117 (0, 0))) := nb
      clear hblk hsl h hb hnil hlc hcm hab hlt h1 h2 h3 nb hln
      go_enter Try.func66, Try.ntmps66
      go_wp2
      go_ret
      exact ⟨⟨_, rfl, slB_nil _ _⟩, ⟨_, NB.out, HSL.out.up (Save.cell _ _ _ _).1⟩, Save.cell _ _ _ _⟩
    · have d1 : decide ((n : Int) > (ln : Int)) = false := by simp; omega
      have d0 : decide ((n : Int) < 0) = false := by simp
      have h1 : nextN n l 0 = l.take n := by simp [nextN, hlt]
      have h2 : restN n l 0 = l.drop n := by simp [restN, hlt]
      have h3 : errN n l 0 = 0 := by simp [errN, hlt]
      rw [h1, h2, h3]
      have s0 : (0 : Int) ≤ (n : Int) := by omega
      have s1 : (n : Int) ≤ (ln : Int) := by omega
      have s2 : (n : Int) ≤ (cap : Int) := by omega
      have htl : (l.take n).length = n := by simp; omega
      have hdl : (l.drop n).length = ln - n := by simp; omega
      have hb1 := hb.1
      rcases ha : a with _ | ⟨g, o, sp⟩
      · subst ha
        have hc0 := hnil rfl
        have hl0 : ln = 0 := by omega
        have hn0 : n = 0 := by omega
        subst hc0
        have hle : l = [] := List.length_eq_zero_iff.1 (by omega)
        subst hle
        simp at hln
        subst hln hn0
        have nb := block_at hblk 0 (.slice none 0 0)
        have NB : Hid ((w.setCell ⟨rb, 0, none⟩ (.slice none 0 0)).heap[rb]? = some (.cells #[.slice none 0 0, .int .i64 0] 117 (0, 0))) := nb
        clear hblk hsl h hb hnil hlc hcm hab hlt h1 h2 h3 nb htl hdl hb1
        go_enter Try.func66, Try.ntmps66
        go_wp2
        go_ret
        exact ⟨⟨_, rfl, slB_nil _ _⟩, ⟨_, NB.out, slB_nil _ _⟩, Save.cell _ _ _ _⟩
      · subst ha
        obtain ⟨hgb, hsp⟩ := hab _ rfl
        simp only at hgb hsp
        subst hsp
        have HT : Hid (SlB w rb (.slice (some ⟨g, o, none⟩) n n) (l.take n)) := by
          refine ⟨_, n, by rw [htl], ⟨fun x hx => hb1 x (List.mem_of_mem_take hx), fun h0 => ?_⟩, (fun h => by cases h), by rw [htl]; exact Nat.le_refl _, by omega, fun p hp => by cases hp; exact ⟨hgb, rfl⟩⟩
          rw [htl] at h0
          obtain ⟨g', o', e1, e2, e3, e4⟩ := hb.2 (by omega)
          cases e1
          refine ⟨g, o, rfl, by rw [htl]; exact Nat.le_refl _, e3, fun j hj => ?_⟩
          rw [htl] at hj
          rw [e4 j (by omega), List.getD_eq_getElem?_getD, List.getD_eq_getElem?_getD, List.getElem?_take_of_lt hj]
        have hdrop : ∀ q : Nat, (q = o + n ∨ ln = n) → SlB w rb (.slice (some ⟨g, q, none⟩) (ln - n) (cap - n)) (l.drop n) := by
          intro q hq
          refine ⟨_, cap - n, by rw [hdl], ⟨fun x hx => hb1 x (List.mem_of_mem_drop hx), fun h0 => ?_⟩, (fun h => by cases h), by rw [hdl]; omega, by unfold maxLen at *; omega, fun p hp => by cases hp; exact ⟨hgb, rfl⟩⟩
          rw [hdl] at h0
          obtain ⟨g', o', e1, e2, e3, e4⟩ := hb.2 (by omega)
          cases e1
          have hq2 : q = o + n := by omega
          refine ⟨g, q, rfl, by rw [hdl]; omega, e3, fun j hj => ?_⟩
          rw [hdl] at hj
          rw [hq2, Nat.add_assoc, e4 (n + j) (by omega), List.getD_eq_getElem?_getD, List.getD_eq_getElem?_getD, List.getElem?_drop]
        by_cases hcn : cap = n
        · have hd0 := hdrop o (.inr (by omega))
          rw [show cap - n = 0 by omega] at hd0
          have HD := Lib.hid hd0
          have nb := block_at hblk 0 (.slice (some ⟨g, o, none⟩) (ln - n) 0)
          have NB : Hid ((w.setCell ⟨rb, 0, none⟩ (.slice (some ⟨g, o, none⟩) (ln - n) 0)).heap[rb]? = some (.cells #[.slice (some ⟨g, o, none⟩) (ln - n) 0, .int .i64 0] 117 (0, 0))) := nb
          clear hd0
          clear hblk hsl h hb hnil hlc hcm hab hlt h1 h2 h3 nb htl hdl hb1 hdrop hln
          go_enter Try.func66, Try.ntmps66
          go_wp2
          go_ret
          exact ⟨⟨_, rfl, HT.out.up (Save.cell _ _ _ _).1⟩, ⟨_, NB.out, HD.out.up (Save.cell _ _ _ _).1⟩, Save.cell _ _ _ _⟩
        · have HD := Lib.hid (hdrop (o + n) (.inl rfl))
          have nb := block_at hblk 0 (.slice (some ⟨g, o + n, none⟩) (ln - n) (cap - n))
          have NB : Hid ((w.setCell ⟨rb, 0, none⟩ (.slice (some ⟨g, o + n, none⟩) (ln - n) (cap - n))).heap[rb]? = some (.cells #[.slice (some ⟨g, o + n, none⟩) (ln - n) (cap - n), .int .i64 0] 117 (0, 0))) := nb
          clear hblk hsl h hb hnil hlc hcm hab hlt h1 h2 h3 nb htl hdl hb1 hdrop hln
          go_enter Try.func66, Try.ntmps66
          go_wp2
          go_ret
          exact ⟨⟨_, rfl, HT.out.up (Save.cell _ _ _ _).1⟩, ⟨_, NB.out, HD.out.up (Save.cell _ _ _ _).1⟩, Save.cell _ _ _ _⟩
  · have d1 : decide (err = 0) = false := by simpa using he
    have h1 : nextN n l err = [] := by simp [nextN, he]
    have h2 : restN n l err = l := by simp [restN, he]
    have h3 : errN n l err = err := by simp [errN, he]
    rw [h1, h2, h3]
    clear hblk hsl h hb hnil hlc hcm hab h1 h2 h3 hln
    go_enter Try.func66, Try.ntmps66
    go_wp2
    go_ret
    exact ⟨⟨_, rfl, slB_nil _ _⟩, HH.out, Save.refl _ _ _⟩
set_option maxRecDepth 100000 in
theorem clone2_c (v : Value) (l : List Nat) (hl : l.length ≤ 1000000) (w : World) (h : SlAt w v l) :
    Calls Try.prog 22 #[v] w fun e w' => ∃ v', e = .returned v' ∧ w'.ownsRow w.heap.size 5 1 v' l.length (bA l).toList ∧ Below w.heap.size w w' := by
  obtain ⟨a, cap, rfl, hb, hnil, hlc, hcm⟩ := h
  rcases a with _ | ⟨g, o, sp⟩
  · have hl0 : l.length = 0 := by have := hnil rfl; omega
    have hle : l = [] := List.length_eq_zero_iff.1 hl0
    have hc0 := hnil rfl
    subst hle hc0
    clear hb hnil hlc hcm hl hl0
    show Calls _ _ #[.slice none 0 0] w _
    have hnn : ∀ w : World, (binOp .eql 34 (.slice none 0 0) (.slice none 0 0)).run Try.prog w = .ok (.bool true) w := fun w => by first | rfl | kernel_rfl | (simp [binOp, Op.equal]; done)
    go_enter Try.func22, Try.ntmps22
    go_wp2
    go_ret
    exact ⟨_, rfl, World.ownsRow_nil _ _ _ _, Below.refl _ _⟩
  · obtain ⟨n, hn⟩ : ∃ n, n = l.length := ⟨_, rfl⟩
    rw [← hn]
    have HE : Hid (l.length = n) := hn.symm
    have HN : Hid (0 + n ≤ 1000000) := by show _ ≤ _; omega
    have HOWN0 : Hid ((w.alloc (Obj.cells #[] 5)).ownsRow w.heap.size 5 1 (.slice (some ⟨w.heap.size, 0, none⟩) 0 0) 0 []) := own_none0 (Nat.le_refl _)
    have HBE0 : Hid (Below w.heap.size w (w.alloc (Obj.cells #[] 5))) := (Below.refl _ _).alloc (Nat.le_refl _) _
    have HB0 : Hid (BytesAt (w.alloc (Obj.cells #[] 5)) (some ⟨g, o, sp⟩) cap l) := hb.up HBE0.out (Nat.le_refl _)
    have hnn : ∀ w : World, (binOp .eql 34 (.slice (some ⟨g, o, sp⟩) n cap) (.slice none 0 0)).run Try.prog w = .ok (.bool false) w := fun w => by first | rfl | kernel_rfl | (simp [binOp, Op.equal]; done)
    clear hb hnil hlc hcm hl hn
    go_enter Try.func22, Try.ntmps22
    go_wp2_with (first
      | (refine wpList_append_bytes (v := .slice (some ⟨w.heap.size, 0, none⟩) 0 0) (base := w.heap.size) (n := 0) (xs := []) rfl (.tmp 5) (.tmp 6) rfl rfl HOWN0.out rfl HE.out HB0.out (fun h => by cases h) HN.out (by rw [World.size_alloc]; omega) ?_; intro v1 w1 hown1 hgrow1; have HOWN1 := Lib.hid hown1; have HBEL : Hid (Below w.heap.size w w1) := HBE0.out.grown hgrow1 (by rw [World.size_alloc]; omega) (fun q e => by simp [Value.ownBlock] at e; omega); clear hown1 hgrow1)
      | fail)
    go_ret
    have hown := HOWN1.out
    rw [Nat.zero_add, List.nil_append] at hown
    exact ⟨_, rfl, hown, HBEL.out⟩
theorem slB_own {w : World} {base B : Nat} {v : Value} {l : List Nat} (hl : ∀ x ∈ l, x < 256) (h : w.ownsRow base 5 1 v l.length (bA l).toList) (hB : w.heap.size ≤ B) : SlB w B v l := by
  obtain ⟨a, cap, rfl, hb, _, hlc, hcm, hnil, hg⟩ := own_bytes hl h
  refine ⟨a, cap, rfl, hb, hnil, hlc, hcm, fun p hp => ?_⟩
  obtain ⟨g, o, z⟩ := p
  obtain ⟨_, _, h2, _, h3⟩ := hg g o z hp
  exact ⟨Nat.lt_of_lt_of_le h3 hB, h2⟩
set_option maxRecDepth 100000 in
theorem rowof_c (v : Value) (l : List Nat) (hl : l.length ≤ 1000000) (w : World) (h : SlAt w v l) :
    Calls Try.prog 46 #[v] w fun e w' => ∃ rb, e = .returned (.pointer (some ⟨rb, 0, none⟩)) ∧ w.heap.size ≤ rb ∧ RowIs w' rb l 0 ∧ Below w.heap.size w w' := by
  have HC := Lib.hid (clone2_c v l hl w h)
  have HL : Hid (∀ x ∈ l, x < 256) := by obtain ⟨a, cap, _, hb, _⟩ := h; exact hb.1
  clear h hl
  go_enter Try.func46, Try.ntmps46
  go_wp2_with fail
  refine HC.out.mono ?_
  rintro e w1 ⟨v1, rfl, hown1, hb1⟩
  obtain ⟨a1, c1, rfl⟩ := own_slice hown1
  have HS1 := Lib.hid (slB_own HL.out hown1 (Nat.le_refl _))
  have HB1 := Lib.hid hb1
  obtain ⟨ln, hln⟩ : ∃ ln, ln = l.length := ⟨_, rfl⟩
  rw [← hln] at HS1 ⊢
  clear hown1 hb1 hln
  go_wp2
  go_ret
  have hbb : Below w1.heap.size w1 (w1.alloc (.cells #[.slice a1 ln c1, .int .i64 0] 117)) := (Below.refl _ _).alloc (Nat.le_refl _) _
  exact ⟨w1.heap.size, rfl, HB1.out.size, ⟨_, heap_new' _ _, HS1.out.up hbb⟩, HB1.out.trans (hbb.mono HB1.out.size)⟩
set_option maxRecDepth 100000 in
theorem equal2_c (a1 a2 : Option Addr) (c1 c2 n1 n2 : Nat) (l1 l2 : List Nat) (e1 : l1.length = n1) (e2 : l2.length = n2) (w : World) (h1 : BytesAt w a1 c1 l1) (h2 : BytesAt w a2 c2 l2) :
    Calls Try.prog 49 #[.slice a1 n1 c1, .slice a2 n2 c2] w fun e w' => e = .returned (.bool (decide (l1 = l2))) ∧ w = w' := by
  have H1 := Lib.hid h1
  have H2 := Lib.hid h2
  have HE := Lib.hid e1
  have HE2 := Lib.hid e2
  have HLT := Lib.hid (And.intro h1.1 h2.1)
  clear h1 h2 e1 e2
  go_enter Try.func49, Try.ntmps49
  go_wp2_with (first
    | (refine wpList_conv rfl (.tmp 5) HE.out H1.out rfl rfl ?_)
    | (refine wpList_conv rfl (.tmp 7) HE2.out H2.out rfl rfl ?_)
    | (refine wpList_eqs rfl (.tmp 6) (.tmp 8) 9 l1 l2 HLT.out.1 HLT.out.2 rfl rfl rfl ?_)
    | fail)
  go_ret
  exact ⟨rfl, rfl⟩
end Go.Proofs.Ytpbmjfjnmcpieaa
