/- Texts ChW, ChH, ChI, ChJ, RCa, put together by pack.py. -/
import Derived.Test.YtpbmjfjnmcpieaaGreatCBa
import Derived.Deep.AppendLies
import Derived.Lib.AppendZerosOnto
import Derived.Lib.Walk
import Derived.ArgAppend
import Derived.DeepKeys
set_option maxRecDepth 100000
set_option maxHeartbeats 16000000
set_option linter.unusedVariables false
set_option linter.unusedSimpArgs false
namespace Go.Proofs.YtpbmjfjnmcpieaaGreat
open Go Go.RowKit
/-- all but one block -/
def Save (B m : Nat) (w w' : World) : Prop := Below B w w' /\ ∀ k, k < w.heap.size -> k ≠ m -> w'.heap[k]? = w.heap[k]?
theorem Save.refl (B m : Nat) (w : World) : Save B m w w := ⟨Below.refl _ _, fun _ _ _ => rfl⟩
theorem Save.trans {B m : Nat} {a b c : World} (h : Save B m a b) (k : Save B m b c) : Save B m a c :=
 ⟨h.1.trans k.1, fun i hi hne => (k.2 i (Nat.lt_of_lt_of_le hi h.1.size) hne).trans (h.2 i hi hne)⟩
theorem Save.setCell {B m : Nat} {a b : World} (h : Save B m a b) (hB : B <= m) (o : Nat) (v : Value) : Save B m a (b.setCell ⟨m, o, none⟩ v) :=
 ⟨h.1.setCell hB _, fun k hk hne => (Below.heap_setCell _ _ _ _ (by simpa using hne)).trans (h.2 k hk hne)⟩
theorem Save.drew {B m : Nat} {a b : World} (h : Save B m a b) : Save B m a b.drew := ⟨h.1.drew, h.2⟩
theorem Save.mono {B B' m : Nat} {a b : World} (h : Save B m a b) (hB : B' <= B) : Save B' m a b := ⟨h.1.mono hB, h.2⟩
theorem up_c (n v k : Nat) (hv : v < 18446744073709551616) (hk : k < 8) (K : Int) (hK : K = k) (w : World) :
  Calls Tryz.prog 99 #[.agg #[.int .i64 (n : Int), .int .u64 (v : Int)], .int .i64 K] w fun e w' => e = .returned (.int .u8 ((upB v k : Nat) : Int)) /\ Below w.heap.size w w' := by
 subst hK
 go_enter Tryz.func99, Tryz.ntmps99
 go_wp2
 go_ret
 exact ⟨ret_i (by unfold upB; simp), (Below.refl _ _).alloc (Nat.le_refl _) _⟩
theorem grow_c (n : Nat) (h0 : 0 < n) (hn : n <= 4294967296) (w : World) :
  Calls Tryz.prog 103 #[.slice none 0 0, .int .i64 (n : Int)] w fun e w' => ∃ G, e = .returned (.slice (some ⟨w.heap.size, 0, none⟩) 0 G) /\ w'.ownsRow w.heap.size 5 1 (.slice (some ⟨w.heap.size, 0, none⟩) 0 G) 0 [] /\ Below w.heap.size w w' := by
 obtain ⟨i0, hi0, hzz⟩ := Option.map_eq_some_iff.1 u8info
 simp only [Prod.mk.injEq] at hzz
 obtain ⟨hz0, hs0, hb0⟩ := hzz
 have hold : (Builtin.firstCells i0.size 0 (.slice none 0 0)).run Tryz.prog w.drew = .ok #[] w.drew := run_firstCells_none w.drew i0.size 0 0 0
 have hg : (0 : Nat) < 0 + n := by omega
 have hrz : ∀ ty, (Builtin.append_ #[47, 3] ty #[.slice none 0 0, .int .i64 (n : Int)]).run Tryz.prog w =
   .ok (.slice (some ⟨w.heap.size, 0, none⟩) n (grownCap w n 0 5)) (w.drew.alloc (.cells (#[] ++ Builtin.zeroCells #[.int .u8 0] n ++ Builtin.zeroCells #[.int .u8 0] (grownCap w n 0 5 - n)) 5)) := fun ty => by
  have h := Lib.run_append_grow_zeros w 47 3 ty 5 i0 (.int .u8 0) .i64 .i64 Tryz.underlying47 Tryz.underlying3 hi0 hz0 none 0 0 [] hold n h0 (by omega) (by omega) (by omega) (by rw [hb0]; omega)
   (growslice_fits (by omega) (by rw [hb0]; omega))
  rw [Nat.zero_add] at h
  exact h
 have hGn : n <= grownCap w n 0 5 := grownCap_ge w _ _ _
 have hGm := grownCap_le_maxLen w n 0 5 (by unfold maxLen; omega)
 generalize grownCap w n 0 5 = G at *
 have hrow : (w.alloc (.cells (Builtin.zeroCells #[.int .u8 0] n ++ Builtin.zeroCells #[.int .u8 0] (G - n)) 5)).drew.ownsRow w.heap.size 5 1 (.slice (some ⟨w.heap.size, 0, none⟩) 0 G) 0 [] :=
  (World.ownsRow_made w (Builtin.zeroCells #[.int .u8 0] n ++ Builtin.zeroCells #[.int .u8 0] (G - n)) G (by omega) hGm (by simp [size_zeroCells]; omega) : _)
 have HROW := Lib.hid hrow
 clear hold hrow hi0 hz0 hs0 hb0
 have hG63 : G <= 9223372036854775807 := by unfold maxLen at hGm; omega
 have h4 : ¬ ((n : Int) < 0) := by omega
 go_enter Tryz.func103, Tryz.ntmps103
 go_wp2_with (at_builtin; refine Lib.wpList_append_run _ rfl _ _ _ _ rfl _ _ rfl rfl _ _ (hrz _) ?_)
 go_ret
 exact ⟨G, rfl, HROW.out, (Below.refl _ _).drew.alloc (Nat.le_refl _) _⟩
theorem add_zero_off (b j : Nat) : (⟨b, 0, none⟩ : Addr).add j = ⟨b, j, none⟩ := by
 unfold Addr.add; split <;> simp_all
theorem own_base {w : World} {base : Nat} {e : TypeId} {size : Nat} {v : Value} {n : Nat} {xs : List Value} (h : w.ownsRow base e size v n xs) (k : Nat) (hk : v.ownBlock = some k) : base <= k := by
 obtain ⟨_, h2⟩ := h
 rcases h2 with ⟨rfl, _⟩ | ⟨g, cap, cur, rfl, hg, _⟩
 ·simp [Value.ownBlock] at hk
 ·simp [Value.ownBlock] at hk; omega
/-- the total length -/
def totL (segs : List (Nat × List Nat)) : Nat := (segs.map (·.2.length)).sum
def catL (segs : List (Nat × List Nat)) : List Nat := (segs.map (·.2)).flatten
theorem totL_succ (segs : List (Nat × List Nat)) (k : Nat) (h : k < segs.length) : totL (segs.take (k + 1)) = totL (segs.take k) + (segs[k]).2.length := by
 unfold totL; rw [List.take_succ_eq_append_getElem h]; simp only [List.map_append, List.sum_append, List.map_cons, List.map_nil, List.sum_cons, List.sum_nil]; omega
theorem catL_succ (segs : List (Nat × List Nat)) (k : Nat) (h : k < segs.length) : catL (segs.take (k + 1)) = catL (segs.take k) ++ (segs[k]).2 := by
 unfold catL; rw [List.take_succ_eq_append_getElem h]; simp only [List.map_append, List.flatten_append, List.map_cons, List.map_nil, List.flatten_cons, List.flatten_nil, List.append_nil]
theorem totL_le (segs : List (Nat × List Nat)) (k : Nat) : totL (segs.take k) <= totL segs := by
 have : totL segs = totL (segs.take k) + totL (segs.drop k) := by
  unfold totL; rw [<- List.sum_append, <- List.map_append, List.take_append_drop]
 omega
/-- the row of the slices -/
def segV (s : Nat × List Nat) : Value := .slice (some ⟨s.1, 0, none⟩) s.2.length s.2.length
def segA (segs : List (Nat × List Nat)) : Array Value := (segs.map segV).toArray
theorem segA_get (segs : List (Nat × List Nat)) (k : Nat) (h : k < segs.length) : (segA segs)[k]? = some (segV segs[k]) := by
 unfold segA; simp [h]
def SegsIn (w : World) (segs : List (Nat × List Nat)) : Prop := ∀ s ∈ segs, w.heap[s.1]? = some (.cells (bA s.2) 5 (0, 0))
theorem concat_c (segs : List (Nat × List Nat)) (bs : Nat) (w : World) (hbs : w.heap[bs]? = some (.cells (segA segs) 47 (0, 0))) (hsegs : SegsIn w segs)
  (h0 : 0 < totL segs) (ht : totL segs <= 4294967296) (hlen : segs.length <= 4294967296) :
  Calls Tryz.prog 93 #[.slice (some ⟨bs, 0, none⟩) segs.length segs.length] w
   fun e w' => ∃ v, e = .returned v /\ w'.ownsRow w.heap.size 5 1 v (totL segs) ((catL segs).map fun (n : Nat) => .int .u8 (n : Int)) /\ Below w.heap.size w w' := by
 have HBS := Lib.hid hbs
 have HSG := Lib.hid hsegs
 clear hbs hsegs
 go_enter Tryz.func93, Tryz.ntmps93
 go_wp2
 go_loop [3, 11] (fun vs vi => ∃ k n : Nat, k <= segs.length /\ vi = .int .i64 k /\ vs = .int .i64 n /\ n <= totL segs /\ Hid (n = totL (segs.take k))) (fun _ vi => segs.length - (intOf vi).toNat)
 case atStart => exact ⟨0, 0, by omega, rfl, rfl, by omega, rfl⟩
 case round =>
  obtain ⟨k, n, hk, rfl, rfl, hn, hnt⟩ := hrel
  by_cases hlt : k < segs.length
  ·have c0 := (cells_at HBS.out k).trans (segA_get segs k hlt)
   have hsum := totL_succ segs k hlt
   have hle := totL_le segs (k + 1)
   obtain ⟨m, hm⟩ : ∃ m, m = (segs[k]).2.length := ⟨_, rfl⟩
   have c1 : w.cell? ⟨bs, k, none⟩ = some (.slice (some ⟨(segs[k]).1, 0, none⟩) m m) := by rw [c0, segV, hm]
   have hnm : n + m <= totL segs := by have := hnt.out; omega
   have HNM : Hid (n + m = totL (segs.take (k + 1))) := by have := hnt.out; show n + m = totL (segs.take (k + 1)); omega
   obtain ⟨b, hb⟩ : ∃ b, b = (segs[k]).1 := ⟨_, rfl⟩
   rw [<- hb] at c1
   clear c0 hsum hle hnt hm hb
   have hneg : ¬ ((n : Int) + (m : Int) < 0) := by omega
   go_wp2
   go_round
   case rel => exact ⟨k + 1, n + m, by omega, by go_num, by go_num, hnm, HNM⟩
   case measure => simp [intOf]; omega
  ·obtain rfl : k = segs.length := by omega
   obtain rfl : n = totL segs := by have := hnt.out; rw [List.take_length] at this; exact this
   clear hnt hk hlt
   go_wp2_with (go_at_call 103; (with_reducible refine (grow_c _ h0 ht _).mono ?_); rintro e w1 ⟨G, rfl, hown, hbel⟩)
   have hst : w1.ownsRow w.heap.size 5 1 (.slice (some ⟨w.heap.size, 0, none⟩) 0 G) (totL (segs.take 0)) ((catL (segs.take 0)).map fun (n : Nat) => .int .u8 (n : Int)) := hown
   have HST := Lib.hid hst
   have HBEL := Lib.hid hbel
   clear hown hst hbel
   obtain ⟨i0, hi0, hzz⟩ := Option.map_eq_some_iff.1 u8info
   simp only [Prod.mk.injEq] at hzz
   obtain ⟨hz0, hs0, hb0⟩ := hzz
   have HI := Lib.hid hi0
   have HZ := Lib.hid hz0
   have HSZ := Lib.hid hs0
   have HBY := Lib.hid hb0
   clear hi0 hz0 hs0 hb0
   go_loopw [6, 27] (fun v vi wr => ∃ k : Nat, k <= segs.length /\ vi = .int .i64 k /\ Hid (wr.ownsRow w.heap.size 5 1 v (totL (segs.take k)) ((catL (segs.take k)).map fun (n : Nat) => .int .u8 (n : Int))) /\ Hid (Below w.heap.size w wr)) (fun _ vi _ => segs.length - (intOf vi).toNat)
   case atStart => exact ⟨0, by omega, rfl, HST, HBEL⟩
   case round =>
    clear HST HBEL
    obtain ⟨k, hk, rfl, hown, hbel⟩ := hrel
    by_cases hlt : k < segs.length
    ·have hbs : bs < w.heap.size := lt_of_block HBS.out
     have hblk := (hbel.out.block bs hbs).trans HBS.out
     have c0 := (cells_at hblk k).trans (segA_get segs k hlt)
     have hsum := totL_succ segs k hlt
     have hcat := catL_succ segs k hlt
     have hle := totL_le segs (k + 1)
     have hseg := HSG.out _ (List.getElem_mem hlt)
     have hsb : (segs[k]).1 < w.heap.size := lt_of_block hseg
     have hsw := (hbel.out.block _ hsb).trans hseg
     generalize hsg : segs[k] = sg at *
     obtain ⟨b, l⟩ := sg
     simp only at hsum hcat hsb hsw
     obtain ⟨m, hm⟩ : ∃ m, m = l.length := ⟨_, rfl⟩
     have c1 : wr.cell? ⟨bs, k, none⟩ = some (.slice (some ⟨b, 0, none⟩) m m) := by rw [c0, segV, hm]
     have hnews : ∀ j u, (l.map fun (n : Nat) => Value.int .u8 (n : Int))[j]? = some u -> wr.cell? ((⟨b, 0, none⟩ : Addr).add j) = some u := fun j u hj => by
      have : wr.cell? ⟨b, j, none⟩ = some u := by rw [cells_at hsw j]; unfold bA; simpa using hj
      rw [add_zero_off]; exact this
     have h1c : ∀ u ∈ (l.map fun (n : Nat) => Value.int .u8 (n : Int)), u.oneCell' = true := fun u hu => by
      obtain ⟨n, _, rfl⟩ := List.mem_map.1 hu; rfl
     have HN := Lib.hid hnews
     have H1C := Lib.hid h1c
     have hml : (l.map fun (n : Nat) => Value.int .u8 (n : Int)).length = m * 1 := by simp [hm]
     have HML := Lib.hid hml
     have hbound : totL (segs.take k) + m <= 4294967296 := by omega
     have HSUM : Hid (totL (segs.take k) + m = totL (segs.take (k + 1))) := by rw [hsum, hm]; exact rfl
     have HCAT := Lib.hid hcat
     have hwz := Lib.hid hbel.out.size
     clear c0 hsum hcat hle hseg hsw hblk hnews h1c hml hm hsg
     go_wp2_with (at_builtin; refine wpList_append_own _ rfl (.tmp 31) (.tmp 32) 47 rfl w.heap.size 5 i0 (.int .u8 0) 1 1 Tryz.underlying47 HI.out HZ.out HSZ.out HBY.out rfl (by decide) _ _ _ rfl hown.out ⟨b, 0, none⟩ m m (l.map fun (n : Nat) => Value.int .u8 (n : Int)) rfl HML.out HN.out H1C.out (by unfold maxLen; omega) (by omega) hwz.out ?_)
     intro v' w2 hown' hgrow _
     have R1 : Hid (w2.ownsRow w.heap.size 5 1 v' (totL (segs.take (k + 1))) ((catL (segs.take (k + 1))).map fun (n : Nat) => .int .u8 (n : Int))) := by
      rw [<- HSUM.out, HCAT.out, List.map_append]; exact hown'
     have R2 := Lib.hid (hbel.out.grown hgrow hwz.out (own_base hown.out))
     clear hown' hgrow hown hbel HN H1C HML
     go_wp2
     go_roundw
     case rel => exact ⟨k + 1, by omega, by go_num, R1, R2⟩
     case measure => simp [intOf]; omega
    ·obtain rfl : k = segs.length := by omega
     have R : Hid (wr.ownsRow w.heap.size 5 1 u6 (totL segs) ((catL segs).map fun (n : Nat) => .int .u8 (n : Int))) := by
      have := hown.out; rw [List.take_length] at this; exact this
     clear hown
     go_wp2
     go_ret
     exact ⟨_, rfl, R.out, hbel.out⟩
/-- the lowest n bytes, the lowest first -/
def lowB (n v : Nat) : List Nat := (List.range n).map fun k => upB v k
theorem lowB_len (n v : Nat) : (lowB n v).length = n := by simp [lowB]
theorem lowB_get (n v k : Nat) (h : k < n) : (lowB n v).getD k 0 = upB v k := by simp [lowB, h]
theorem lowB_lt (n v : Nat) : ∀ x ∈ lowB n v, x < 256 := by
 intro x hx
 simp only [lowB, List.mem_map] at hx
 obtain ⟨k, _, rfl⟩ := hx
 exact Nat.mod_lt _ (by decide)
theorem lbytes_c (n v : Nat) (hv : v < 18446744073709551616) (h1 : 1 <= n) (hn : n <= 8) (w : World) :
  Calls Tryz.prog 98 #[.agg #[.int .i64 (n : Int), .int .u64 (v : Int)], .func (.func 99) #[.agg #[.int .i64 (n : Int), .int .u64 (v : Int)]] #[]] w
   fun e w' => ∃ b, e = .returned (.slice (some ⟨b, 0, none⟩) n n) /\ w.heap.size <= b /\ b < w'.heap.size /\ w'.heap[b]? = some (.cells (bA (lowB n v)) 5 (0, 0)) /\ Below w.heap.size w w' := by
 have hmk := mk_bytes n (by omega)
 have hlo : ¬ (n : Int) < 1 := by omega
 have hhi : ¬ (8 : Int) < n := by omega
 have hl := lowB_len n v
 have hs : ∀ o : Obj, ((w.alloc o).alloc (.cells (bA (List.replicate n 0)) 5)).heap[w.heap.size + 1]? = some (.cells (bA (partB (lowB n v) 0)) 5 (0, 0)) := fun o => by
  rw [partB_zero, hl, show w.heap.size + 1 = (w.alloc o).heap.size by simp, heap_new']
 have HS := Lib.hid hs
 have HL := Lib.hid hl
 clear hs hl
 go_enter Tryz.func98, Tryz.ntmps98
 go_wp2
 go_loopw [20] (fun vi wr => ∃ k : Nat, k <= n /\ vi = .int .i64 k /\ Hid (wr.heap[w.heap.size + 1]? = some (.cells (bA (partB (lowB n v) k)) 5 (0, 0))) /\ w.heap.size + 1 < wr.heap.size /\ Below w.heap.size w wr) (fun vi _ => n - (intOf vi).toNat)
 case atStart => exact ⟨0, by omega, rfl, HS.out _, by simp, (((Below.refl _ _).alloc (Nat.le_refl _) _).alloc (by simp) _)⟩
 case round =>
  obtain ⟨k, hk, rfl, hb, hz, hbel⟩ := hrel
  clear HS hmk
  by_cases hlt : k < n
  ·go_wp2_with (go_at_call 99; (with_reducible refine (up_c n v k hv (by omega) _ rfl _).mono ?_); rintro e w1 ⟨rfl, hb1⟩; have hB1 := (hb1.block (w.heap.size + 1) hz).trans hb.out; have hc1 := (cells_at hB1 k).trans (bA_get _ k (by rw [partB_len _ _ (by rw [HL.out]; omega), HL.out]; exact hlt)); have hf1 := free_at hB1 k; have HB1 := Lib.hid hB1; clear hB1)
   go_roundw
   case rel =>
    have h1 := block_at HB1.out k (.int .u8 ((upB v k : Nat) : Int))
    rw [bA_set, <- lowB_get n v k hlt, partB_set _ _ (by rw [HL.out]; exact hlt)] at h1
    rw [lowB_get n v k hlt] at h1
    exact ⟨k + 1, by omega, by go_num, h1, by have := hb1.size; simp [World.setCell]; omega, (hbel.trans (hb1.mono (by omega))).setCell (by simp) _⟩
   case measure => simp [intOf]; omega
  ·obtain rfl : k = n := by omega
   have h1 := hb.out
   have h2 := partB_full (lowB k v)
   rw [HL.out] at h2
   rw [h2] at h1
   have H1 := Lib.hid h1
   clear hb h1 h2
   go_wp2
   go_ret
   exact ⟨_, rfl, by omega, hz, H1.out, hbel⟩
theorem put_c (n v : Nat) (hv : v < 18446744073709551616) (h1 : 1 <= n) (hn : n <= 8) (N V : Int) (hN : N = n) (hV : V = v) (w : World) :
  Calls Tryz.prog 90 #[.int .i64 N, .int .u64 V] w
   fun e w' => ∃ b, e = .returned (.slice (some ⟨b, 0, none⟩) n n) /\ w.heap.size <= b /\ b < w'.heap.size /\ w'.heap[b]? = some (.cells (bA (lowB n v)) 5 (0, 0)) /\ Below w.heap.size w w' := by
 subst hN hV
 go_enter Tryz.func90, Tryz.ntmps90
 go_wp2_with fail
 refine (lbytes_c n v hv h1 hn _).mono ?_
 rintro e w1 ⟨b, rfl, hb, hz, hB, hbel⟩
 have HB := Lib.hid hB
 clear hB
 go_wp2
 go_ret
 exact ⟨b, rfl, by simp at hb; omega, hz, HB.out, ((Below.refl _ _).alloc (Nat.le_refl _) _).trans (hbel.mono (by simp))⟩
/-- a row of bytes that a value names -/
def SlAt (w : World) (v : Value) (l : List Nat) : Prop := ∃ a cap, v = .slice a l.length cap /\ BytesAt w a cap l /\ (a = none -> cap = 0) /\ l.length <= cap /\ cap <= maxLen
/-- rows of bytes behind an address -/
def RowsAt (w : World) (a : Option Addr) (L : List (List Nat)) : Prop := ∀ (i : Nat) (l : List Nat), L[i]? = some l -> ∃ g o v, a = some ⟨g, o, none⟩ /\ g < w.heap.size /\ w.cell? ⟨g, o + i, none⟩ = some v /\ SlAt w v l
theorem SlAt.up {w w' : World} {v : Value} {l : List Nat} (h : SlAt w v l) {B : Nat} (hb : Below B w w') (hB : w.heap.size <= B) : SlAt w' v l := by
 obtain ⟨a, cap, h1, h2, h3⟩ := h
 exact ⟨a, cap, h1, h2.up hb hB, h3⟩
theorem RowsAt.up {w w' : World} {a : Option Addr} {L : List (List Nat)} (h : RowsAt w a L) {B : Nat} (hb : Below B w w') (hB : w.heap.size <= B) : RowsAt w' a L := by
 intro i l hl
 obtain ⟨g, o, v, h1, h2, h3, h4⟩ := h i l hl
 exact ⟨g, o, v, h1, Nat.lt_of_lt_of_le h2 hb.size, (hb.cell (p := ⟨g, o + i, none⟩) (Nat.lt_of_lt_of_le h2 hB)).trans h3, h4.up hb hB⟩
theorem flat_lt {α : Type} (L : List α) (f : α -> List Nat) (h : ∀ a ∈ L, ∀ x ∈ f a, x < 256) : ∀ x ∈ L.flatMap f, x < 256 := by
 intro x hx
 rw [List.mem_flatMap] at hx
 obtain ⟨a, ha, hx⟩ := hx
 exact h a ha x hx
theorem app_lt {a b : List Nat} (ha : ∀ x ∈ a, x < 256) (hb : ∀ x ∈ b, x < 256) : ∀ x ∈ a ++ b, x < 256 := fun x hx => (List.mem_append.1 hx).elim (ha x) (hb x)
theorem rowsAt_lt {w : World} {a : Option Addr} {L : List (List Nat)} (h : RowsAt w a L) : ∀ l ∈ L, ∀ x ∈ l, x < 256 := by
 intro l hl
 obtain ⟨k, hk⟩ := List.getElem?_of_mem hl
 obtain ⟨g, o, v, _, _, _, a', c', _, hb, _⟩ := h k l hk
 exact hb.1
theorem slinfo : (Tryz.prog.info? 47).map (fun i => (i.zero, i.size, i.bytes)) = some (some (.slice none 0 0), 1, 24) := by kernel_rfl
theorem sl_parts : ∃ i, Tryz.prog.info? 47 = some i /\ i.zero = some (.slice none 0 0) /\ i.size = 1 /\ i.bytes = 24 := by
 obtain ⟨i, hi, h⟩ := Option.map_eq_some_iff.1 slinfo
 simp only [Prod.mk.injEq] at h
 exact ⟨i, hi, h.1, h.2.1, h.2.2⟩
/-- append of one row -/
theorem wpList_append_row {w : World} {ops : Array Oper} {rest : List Oper} {o : Oper} {A : Act} {Q : Exit -> Act -> World -> Prop} (hgd : o.guard = none) (s x : Operand)
  (ho : o.op = .call { callee := .builtin .append, args := #[s, x], argTypes := #[32, 32] }) {base n : Nat} {v : Value} {xs : List Value} (hs : A.eval s = v) (hown : w.ownsRow base 47 1 v n xs)
  {g : Nat} {u : Value} (hx : A.eval x = .slice (some ⟨g, 0, none⟩) 1 1) (hu : w.cell? ⟨g, 0, none⟩ = some u) (h1 : u.oneCell' = true) (h63 : n + 1 <= 1000000) (hbase : base <= w.heap.size)
  (h : ∀ v' w', w'.ownsRow base 47 1 v' (n + 1) (xs ++ [u]) -> w.grownBy w' v.ownBlock -> wpList Tryz.prog ops Q rest (A.put o.dst v') w') : wpList Tryz.prog ops Q (o :: rest) A w :=
 wpList_plain hgd fun _ hK => by
  obtain ⟨i0, hi, hz0, hz1, hz2⟩ := sl_parts
  obtain ⟨v', w', h1, h2, h3, _⟩ := run_append_own_at (P := Tryz.prog) w base 32 o.type 47 i0 _ 1 24 Tryz.underlying32 hi hz0 hz1 hz2 rfl (by omega) v n xs hown ⟨g, 0, none⟩ 1 1 [u] rfl
   (fun j y hj => by
    have hj0 : j = 0 := by have := (List.getElem?_eq_some_iff.1 hj).1; simpa using this
    subst hj0
    rw [add_plain]
    exact hu.trans hj) (by simpa using h1) (by unfold maxLen; omega) (by omega) hbase
  unfold Oper.wp execOp
  simp only [ho, resolve, invoke, builtin, Sem.run_bind, Sem.run_pure, Result.andThen_ok, List.map_toArray, List.map_cons, List.map_nil, hs, hx, h1]
  exact hK _ _ (h v' w' h2 h3)
/-- values that name rows of bytes -/
def RowsV (w : World) (xs : List Value) (L : List (List Nat)) : Prop := xs.length = L.length /\ ∀ (i : Nat) (l : List Nat), L[i]? = some l -> ∃ u, xs[i]? = some u /\ SlAt w u l
theorem RowsV.snoc {w : World} {xs : List Value} {L : List (List Nat)} (h : RowsV w xs L) {u : Value} {l : List Nat} (hu : SlAt w u l) : RowsV w (xs ++ [u]) (L ++ [l]) := by
 refine ⟨by simp [h.1], fun i m hm => ?_⟩
 rcases Nat.lt_or_ge i L.length with hi | hi
 ·rw [List.getElem?_append_left hi] at hm
  obtain ⟨v, h1, h2⟩ := h.2 i m hm
  exact ⟨v, by rw [List.getElem?_append_left (by rw [h.1]; exact hi)]; exact h1, h2⟩
 ·have hi2 : i = L.length := by
   have := (List.getElem?_eq_some_iff.1 hm).1; simp at this; omega
  subst hi2
  simp at hm
  subst hm
  exact ⟨u, by rw [<- h.1]; simp, hu⟩
theorem RowsV.up {w w' : World} {xs : List Value} {L : List (List Nat)} (h : RowsV w xs L) {B : Nat} (hb : Below B w w') (hB : w.heap.size <= B) : RowsV w' xs L := by
 refine ⟨h.1, fun i l hl => ?_⟩
 obtain ⟨u, h1, h2⟩ := h.2 i l hl
 exact ⟨u, h1, h2.up hb hB⟩
theorem rowsAt_of {w : World} {base n : Nat} {a : Option Addr} {c : Nat} {xs : List Value} {L : List (List Nat)} (hown : w.ownsRow base 47 1 (.slice a n c) n xs) (h : RowsV w xs L) : L.length = n /\ RowsAt w a L := by
 have hn : xs.length = n := by have := hown.1; simpa using this
 refine ⟨by rw [<- h.1, hn], fun i l hl => ?_⟩
 obtain ⟨u, h1, h2⟩ := h.2 i l hl
 have hi : i < n := by have := (List.getElem?_eq_some_iff.1 h1).1; omega
 rcases hown.2 with ⟨h3, h4⟩ | ⟨g, cap, cur, h3, h4, h5, h6⟩
 ·omega
 ·injection h3 with h3 _ _
  subst h3
  refine ⟨g, 0, u, rfl, lt_of_block h5, ?_, h2⟩
  have := hown
  rw [cells_at h5 (0 + i), Nat.zero_add]
  have h7 := congrArg (fun l => l[i]?) h6.2.2.2
  simp only [Nat.mul_one] at h7
  rw [List.getElem?_take_of_lt hi, Array.getElem?_toList] at h7
  rw [h7]; exact h1
theorem SlAt.one {w : World} {v : Value} {l : List Nat} (h : SlAt w v l) : v.oneCell' = true := by
 obtain ⟨a, cap, rfl, _⟩ := h; rfl
/-- a row of bytes in a block below B -/
def SlB (w : World) (B : Nat) (v : Value) (l : List Nat) : Prop := ∃ a cap, v = .slice a l.length cap /\ BytesAt w a cap l /\ (a = none -> cap = 0) /\ l.length <= cap /\ cap <= maxLen /\ ∀ p, a = some p -> p.block < B /\ p.spot = none
theorem SlB.up {w w' : World} {B : Nat} {v : Value} {l : List Nat} (h : SlB w B v l) (hb : Below B w w') : SlB w' B v l := by
 obtain ⟨a, cap, h1, h2, h3, h4, h5, h6⟩ := h
 exact ⟨a, cap, h1, bytes_keep h2 (fun g o e hg => hb.block g (h6 _ e).1), h3, h4, h5, h6⟩
theorem SlB.at {w : World} {B : Nat} {v : Value} {l : List Nat} (h : SlB w B v l) : SlAt w v l := by
 obtain ⟨a, cap, h1, h2, h3, h4, h5, _⟩ := h
 exact ⟨a, cap, h1, h2, h3, h4, h5⟩
/-- a row that is read: what is left, the error -/
def RowIs (w : World) (rb : Nat) (l : List Nat) (err : Int) : Prop := ∃ v, w.heap[rb]? = some (.cells #[v, .int .i64 err] 147 (0, 0)) /\ SlB w rb v l
def nextN (n : Nat) (l : List Nat) (err : Int) : List Nat := if err = 0 then (if l.length < n then [] else l.take n) else []
def restN (n : Nat) (l : List Nat) (err : Int) : List Nat := if err = 0 then (if l.length < n then l else l.drop n) else l
def errN (n : Nat) (l : List Nat) (err : Int) : Int := if err = 0 then (if l.length < n then 3 else 0) else err
theorem slB_nil (w : World) (B : Nat) : SlB w B (.slice none 0 0) [] := ⟨none, 0, rfl, ⟨(fun x h => by cases h), (fun h => by cases h)⟩, (fun _ => rfl), Nat.le_refl _, Nat.zero_le _, (fun p h => by cases h)⟩
theorem RowIs.set {w : World} {rb : Nat} {v v' : Value} {err err' : Int} {l l' : List Nat} (h : w.heap[rb]? = some (.cells #[v, .int .i64 err] 147 (0, 0))) {w' : World} (h' : w'.heap[rb]? = some (.cells #[v', .int .i64 err'] 147 (0, 0))) (hs : SlB w rb v' l') (hb : Below rb w w') : RowIs w' rb l' err' := ⟨v', h', hs.up hb⟩
theorem Save.cell (w : World) (m o : Nat) (v : Value) : Save m m w (w.setCell ⟨m, o, none⟩ v) := (Save.refl m m w).setCell (Nat.le_refl _) o v
theorem next_c (rb n : Nat) (hn : n <= 70000) (N : Int) (hN : N = n) (l : List Nat) (hl : l.length <= 1000000) (err : Int) (w : World) (h : RowIs w rb l err) :
  Calls Tryz.prog 87 #[.pointer (some ⟨rb, 0, none⟩), .int .i64 N] w fun e w' => (∃ v, e = .returned v /\ SlB w' rb v (nextN n l err)) /\ RowIs w' rb (restN n l err) (errN n l err) /\ Save rb rb w w' := by
 subst hN
 obtain ⟨v, hblk, hsl⟩ := id h
 obtain ⟨a, cap, rfl, hb, hnil, hlc, hcm, hab⟩ := id hsl
 obtain ⟨ln, hln⟩ : ∃ ln, ln = l.length := ⟨_, rfl⟩
 rw [<- hln] at hblk hlc
 have c0 := (cells_at hblk 0).trans (show _ = some (Value.slice a ln cap) from rfl)
 have c1 := (cells_at hblk 1).trans (show _ = some (Value.int .i64 err) from rfl)
 have f0 := free_at hblk 0
 have f1 := free_at hblk 1
 have HBLK := Lib.hid hblk
 have HSL : Hid (SlB w rb (.slice a ln cap) l) := by show SlB _ _ _ _; rw [hln]; exact hsl
 have HH := Lib.hid h
 by_cases he : err = 0
 ·subst he
  by_cases hlt : l.length < n
  ·have d1 : decide ((n : Int) > (ln : Int)) = true := by simp; omega
   have hx : ln < n := by omega
   have d0 : decide ((n : Int) < 0) = false := by simp
   have h1 : nextN n l 0 = [] := by simp [nextN, hlt]
   have h2 : restN n l 0 = l := by simp [restN, hlt]
   have h3 : errN n l 0 = 3 := by simp [errN, hlt]
   rw [h1, h2, h3]
   have nb := block_at hblk 1 (.int .i64 3)
   have NB : Hid ((w.setCell ⟨rb, 1, none⟩ (.int .i64 3)).heap[rb]? = some (.cells #[.slice a ln cap, .int .i64 3] 147 (0, 0))) := nb
   clear hblk hsl h hb hnil hlc hcm hab hlt h1 h2 h3 nb hln
   go_enter Tryz.func87, Tryz.ntmps87
   go_wp2
   go_ret
   exact ⟨⟨_, rfl, slB_nil _ _⟩, ⟨_, NB.out, HSL.out.up (Save.cell _ _ _ _).1⟩, Save.cell _ _ _ _⟩
  ·have d1 : decide ((n : Int) > (ln : Int)) = false := by simp; omega
   have d0 : decide ((n : Int) < 0) = false := by simp
   have h1 : nextN n l 0 = l.take n := by simp [nextN, hlt]
   have h2 : restN n l 0 = l.drop n := by simp [restN, hlt]
   have h3 : errN n l 0 = 0 := by simp [errN, hlt]
   rw [h1, h2, h3]
   have s0 : (0 : Int) <= (n : Int) := by omega
   have s1 : (n : Int) <= (ln : Int) := by omega
   have s2 : (n : Int) <= (cap : Int) := by omega
   have htl : (l.take n).length = n := by simp; omega
   have hdl : (l.drop n).length = ln - n := by simp; omega
   have hb1 := hb.1
   rcases ha : a with _ | ⟨g, o, sp⟩
   ·subst ha
    have hc0 := hnil rfl
    have hl0 : ln = 0 := by omega
    have hn0 : n = 0 := by omega
    subst hc0
    have hle : l = [] := List.length_eq_zero_iff.1 (by omega)
    subst hle
    simp at hln
    subst hln hn0
    have nb := block_at hblk 0 (.slice none 0 0)
    have NB : Hid ((w.setCell ⟨rb, 0, none⟩ (.slice none 0 0)).heap[rb]? = some (.cells #[.slice none 0 0, .int .i64 0] 147 (0, 0))) := nb
    clear hblk hsl h hb hnil hlc hcm hab hlt h1 h2 h3 nb htl hdl hb1
    go_enter Tryz.func87, Tryz.ntmps87
    go_wp2
    go_ret
    exact ⟨⟨_, rfl, slB_nil _ _⟩, ⟨_, NB.out, slB_nil _ _⟩, Save.cell _ _ _ _⟩
   ·subst ha
    obtain ⟨hgb, hsp⟩ := hab _ rfl
    simp only at hgb hsp
    subst hsp
    have HT : Hid (SlB w rb (.slice (some ⟨g, o, none⟩) n n) (l.take n)) := by
     refine ⟨_, n, by rw [htl], ⟨fun x hx => hb1 x (List.mem_of_mem_take hx), fun h0 => ?_⟩, (fun h => by cases h), by rw [htl]; exact Nat.le_refl _, by omega, fun p hp => by cases hp; exact ⟨hgb, rfl⟩⟩
     rw [htl] at h0
     obtain ⟨g', o', e1, e2, e3, e4⟩ := hb.2 (by omega)
     cases e1
     refine ⟨g, o, rfl, by rw [htl]; exact Nat.le_refl _, e3, fun j hj => ?_⟩
     rw [htl] at hj
     rw [e4 j (by omega), List.getD_eq_getElem?_getD, List.getD_eq_getElem?_getD, List.getElem?_take_of_lt hj]
    have hdrop : ∀ q : Nat, (q = o + n \/ ln = n) -> SlB w rb (.slice (some ⟨g, q, none⟩) (ln - n) (cap - n)) (l.drop n) := by
     intro q hq
     refine ⟨_, cap - n, by rw [hdl], ⟨fun x hx => hb1 x (List.mem_of_mem_drop hx), fun h0 => ?_⟩, (fun h => by cases h), by rw [hdl]; omega, by unfold maxLen at *; omega, fun p hp => by cases hp; exact ⟨hgb, rfl⟩⟩
     rw [hdl] at h0
     obtain ⟨g', o', e1, e2, e3, e4⟩ := hb.2 (by omega)
     cases e1
     have hq2 : q = o + n := by omega
     refine ⟨g, q, rfl, by rw [hdl]; omega, e3, fun j hj => ?_⟩
     rw [hdl] at hj
     rw [hq2, Nat.add_assoc, e4 (n + j) (by omega), List.getD_eq_getElem?_getD, List.getD_eq_getElem?_getD, List.getElem?_drop]
    by_cases hcn : cap = n
    ·have hd0 := hdrop o (.inr (by omega))
     rw [show cap - n = 0 by omega] at hd0
     have HD := Lib.hid hd0
     have nb := block_at hblk 0 (.slice (some ⟨g, o, none⟩) (ln - n) 0)
     have NB : Hid ((w.setCell ⟨rb, 0, none⟩ (.slice (some ⟨g, o, none⟩) (ln - n) 0)).heap[rb]? = some (.cells #[.slice (some ⟨g, o, none⟩) (ln - n) 0, .int .i64 0] 147 (0, 0))) := nb
     clear hd0
     clear hblk hsl h hb hnil hlc hcm hab hlt h1 h2 h3 nb htl hdl hb1 hdrop hln
     go_enter Tryz.func87, Tryz.ntmps87
     go_wp2
     go_ret
     exact ⟨⟨_, rfl, HT.out.up (Save.cell _ _ _ _).1⟩, ⟨_, NB.out, HD.out.up (Save.cell _ _ _ _).1⟩, Save.cell _ _ _ _⟩
    ·have HD := Lib.hid (hdrop (o + n) (.inl rfl))
     have nb := block_at hblk 0 (.slice (some ⟨g, o + n, none⟩) (ln - n) (cap - n))
     have NB : Hid ((w.setCell ⟨rb, 0, none⟩ (.slice (some ⟨g, o + n, none⟩) (ln - n) (cap - n))).heap[rb]? = some (.cells #[.slice (some ⟨g, o + n, none⟩) (ln - n) (cap - n), .int .i64 0] 147 (0, 0))) := nb
     clear hblk hsl h hb hnil hlc hcm hab hlt h1 h2 h3 nb htl hdl hb1 hdrop hln
     go_enter Tryz.func87, Tryz.ntmps87
     go_wp2
     go_ret
     exact ⟨⟨_, rfl, HT.out.up (Save.cell _ _ _ _).1⟩, ⟨_, NB.out, HD.out.up (Save.cell _ _ _ _).1⟩, Save.cell _ _ _ _⟩
 ·have d1 : decide (err = 0) = false := by simpa using he
  have h1 : nextN n l err = [] := by simp [nextN, he]
  have h2 : restN n l err = l := by simp [restN, he]
  have h3 : errN n l err = err := by simp [errN, he]
  rw [h1, h2, h3]
  clear hblk hsl h hb hnil hlc hcm hab h1 h2 h3 hln
  go_enter Tryz.func87, Tryz.ntmps87
  go_wp2
  go_ret
  exact ⟨⟨_, rfl, slB_nil _ _⟩, HH.out, Save.refl _ _ _⟩
theorem clone2_c (v : Value) (l : List Nat) (hl : l.length <= 1000000) (w : World) (h : SlAt w v l) :
  Calls Tryz.prog 85 #[v] w fun e w' => ∃ v', e = .returned v' /\ w'.ownsRow w.heap.size 5 1 v' l.length (bA l).toList /\ Below w.heap.size w w' := by
 obtain ⟨a, cap, rfl, hb, hnil, hlc, hcm⟩ := h
 rcases a with _ | ⟨g, o, sp⟩
 ·have hl0 : l.length = 0 := by have := hnil rfl; omega
  have hle : l = [] := List.length_eq_zero_iff.1 hl0
  have hc0 := hnil rfl
  subst hle hc0
  clear hb hnil hlc hcm hl hl0
  show Calls _ _ #[.slice none 0 0] w _
  have hnn : ∀ w : World, (binOp .eql 47 (.slice none 0 0) (.slice none 0 0)).run Tryz.prog w = .ok (.bool true) w := fun w => by first | rfl | kernel_rfl | (simp [binOp, Op.equal]; done)
  go_enter Tryz.func85, Tryz.ntmps85
  go_wp2
  go_ret
  exact ⟨_, rfl, World.ownsRow_nil _ _ _ _, Below.refl _ _⟩
 ·obtain ⟨n, hn⟩ : ∃ n, n = l.length := ⟨_, rfl⟩
  rw [<- hn]
  have HE : Hid (l.length = n) := hn.symm
  have HN : Hid (0 + n <= 1000000) := by show _ <= _; omega
  have HOWN0 : Hid ((w.alloc (Obj.cells #[] 5)).ownsRow w.heap.size 5 1 (.slice (some ⟨w.heap.size, 0, none⟩) 0 0) 0 []) := own_none0 (Nat.le_refl _)
  have HBE0 : Hid (Below w.heap.size w (w.alloc (Obj.cells #[] 5))) := (Below.refl _ _).alloc (Nat.le_refl _) _
  have HB0 : Hid (BytesAt (w.alloc (Obj.cells #[] 5)) (some ⟨g, o, sp⟩) cap l) := hb.up HBE0.out (Nat.le_refl _)
  have hnn : ∀ w : World, (binOp .eql 47 (.slice (some ⟨g, o, sp⟩) n cap) (.slice none 0 0)).run Tryz.prog w = .ok (.bool false) w := fun w => by first | rfl | kernel_rfl | (simp [binOp, Op.equal]; done)
  clear hb hnil hlc hcm hl hn
  go_enter Tryz.func85, Tryz.ntmps85
  go_wp2_with (first
   | (refine wpList_append_bytes (v := .slice (some ⟨w.heap.size, 0, none⟩) 0 0) (base := w.heap.size) (n := 0) (xs := []) rfl (.tmp 5) (.tmp 6) rfl rfl HOWN0.out rfl HE.out HB0.out (fun h => by cases h) HN.out (by rw [World.size_alloc]; omega) ?_; intro v1 w1 hown1 hgrow1; have HOWN1 := Lib.hid hown1; have HBEL : Hid (Below w.heap.size w w1) := HBE0.out.grown hgrow1 (by rw [World.size_alloc]; omega) (fun q e => by simp [Value.ownBlock] at e; omega); clear hown1 hgrow1)
   | fail)
  go_ret
  have hown := HOWN1.out
  rw [Nat.zero_add, List.nil_append] at hown
  exact ⟨_, rfl, hown, HBEL.out⟩
theorem slB_own {w : World} {base B : Nat} {v : Value} {l : List Nat} (hl : ∀ x ∈ l, x < 256) (h : w.ownsRow base 5 1 v l.length (bA l).toList) (hB : w.heap.size <= B) : SlB w B v l := by
 obtain ⟨a, cap, rfl, hb, _, hlc, hcm, hnil, hg⟩ := own_bytes hl h
 refine ⟨a, cap, rfl, hb, hnil, hlc, hcm, fun p hp => ?_⟩
 obtain ⟨g, o, z⟩ := p
 obtain ⟨_, _, h2, _, h3⟩ := hg g o z hp
 exact ⟨Nat.lt_of_lt_of_le h3 hB, h2⟩
theorem rowof_c (v : Value) (l : List Nat) (hl : l.length <= 1000000) (w : World) (h : SlAt w v l) :
  Calls Tryz.prog 63 #[v] w fun e w' => ∃ rb, e = .returned (.pointer (some ⟨rb, 0, none⟩)) /\ w.heap.size <= rb /\ RowIs w' rb l 0 /\ Below w.heap.size w w' := by
 have HC := Lib.hid (clone2_c v l hl w h)
 have HL : Hid (∀ x ∈ l, x < 256) := by obtain ⟨a, cap, _, hb, _⟩ := h; exact hb.1
 clear h hl
 go_enter Tryz.func63, Tryz.ntmps63
 go_wp2_with fail
 refine HC.out.mono ?_
 rintro e w1 ⟨v1, rfl, hown1, hb1⟩
 obtain ⟨a1, c1, rfl⟩ := own_slice hown1
 have HS1 := Lib.hid (slB_own HL.out hown1 (Nat.le_refl _))
 have HB1 := Lib.hid hb1
 obtain ⟨ln, hln⟩ : ∃ ln, ln = l.length := ⟨_, rfl⟩
 rw [<- hln] at HS1 ⊢
 clear hown1 hb1 hln
 go_wp2
 go_ret
 have hbb : Below w1.heap.size w1 (w1.alloc (.cells #[.slice a1 ln c1, .int .i64 0] 147)) := (Below.refl _ _).alloc (Nat.le_refl _) _
 exact ⟨w1.heap.size, rfl, HB1.out.size, ⟨_, heap_new' _ _, HS1.out.up hbb⟩, HB1.out.trans (hbb.mono HB1.out.size)⟩
theorem equal2_c (a1 a2 : Option Addr) (c1 c2 n1 n2 : Nat) (l1 l2 : List Nat) (e1 : l1.length = n1) (e2 : l2.length = n2) (w : World) (h1 : BytesAt w a1 c1 l1) (h2 : BytesAt w a2 c2 l2) :
  Calls Tryz.prog 66 #[.slice a1 n1 c1, .slice a2 n2 c2] w fun e w' => e = .returned (.bool (decide (l1 = l2))) /\ w = w' := by
 have H1 := Lib.hid h1
 have H2 := Lib.hid h2
 have HE := Lib.hid e1
 have HE2 := Lib.hid e2
 have HLT := Lib.hid (And.intro h1.1 h2.1)
 clear h1 h2 e1 e2
 go_enter Tryz.func66, Tryz.ntmps66
 go_wp2_with (first
  | (refine wpList_conv rfl (.tmp 5) HE.out H1.out rfl rfl ?_)
  | (refine wpList_conv rfl (.tmp 7) HE2.out H2.out rfl rfl ?_)
  | (refine wpList_eqs rfl (.tmp 6) (.tmp 8) 9 l1 l2 HLT.out.1 HLT.out.2 rfl rfl rfl ?_)
  | fail)
 go_ret
 exact ⟨rfl, rfl⟩
end Go.Proofs.YtpbmjfjnmcpieaaGreat
namespace Go.Proofs.YtpbmjfjnmcpieaaGreat
open Go Go.RowKit Go.Lib
theorem nextN_len (n : Nat) (l : List Nat) (err : Int) : (nextN n l err).length <= n := by
 unfold nextN; split <;> (try split) <;> simp <;> omega
theorem num_c (rb n : Nat) (h1 : 1 <= n) (h8 : n <= 8) (N : Int) (hN : N = n) (l : List Nat) (hl : l.length <= 1000000) (err : Int) (w : World) (h : RowIs w rb l err) :
  Calls Tryz.prog 64 #[.pointer (some ⟨rb, 0, none⟩), .int .i64 N] w fun e w' => e = .returned (.int .u64 (leN (nextN n l err) : Int)) /\ RowIs w' rb (restN n l err) (errN n l err) /\ Save rb rb w w' := by
 subst hN
 have HX := Lib.hid (next_c rb n (by omega) n rfl l hl err w h)
 have HL := Lib.hid (nextN_len n l err)
 have d1 : decide ((n : Int) < 1) = false := by simp; omega
 have d2 : decide ((n : Int) > 8) = false := by simp; omega
 have HN := Lib.hid h8
 clear h hl h1 h8
 go_enter Tryz.func64, Tryz.ntmps64
 go_wp2_with fail
 refine HX.out.mono ?_
 rintro e w1 ⟨⟨v1, rfl, hv1⟩, hr1, hs1⟩
 have HR1 := Lib.hid hr1
 have HS1 := Lib.hid hs1
 obtain ⟨a1, c1, rfl, hb1, _⟩ := id hv1
 have HC := Lib.hid (get_c a1 _ c1 _ rfl (by have := HL.out; have := HN.out; omega) w1 hb1)
 clear hr1 hs1 hv1 hb1
 go_wp2_with fail
 refine HC.out.mono ?_
 rintro e w2 ⟨rfl, rfl⟩
 go_wp2
 go_ret
 exact ⟨rfl, HR1.out, HS1.out⟩
theorem bA_toList_len (l : List Nat) : (bA l).toList.length = l.length := by simp [bA]
/-- copy of bytes into a row that is known whole -/
theorem run_copy_bytes {w : World} {g o dl dc : Nat} {cur : List Nat} {t : TypeId} (hg : w.heap[g]? = some (.cells (bA cur) t (0, 0))) (hfit : o + dl <= cur.length) {va : Option Addr} {m vc : Nat} {l : List Nat} (hl : l.length = m) (hb : BytesAt w va vc l) (ty : TypeId) :
  ∃ v w2, (Builtin.copy_ #[47, 47] ty #[.slice (some ⟨g, o, none⟩) dl dc, .slice va m vc]).run Tryz.prog w = .ok v w2 /\ w2.heap[g]? = some (.cells (bA (splice cur o (l.take dl))) t (0, 0)) /\ Save g g w w2 := by
 have hsz : (Tryz.prog.info? 5).map (·.size) = some 1 := by kernel_rfl
 have hcl : (bA (l.take dl)).toList.length = Nat.min m dl := by rw [bA_toList_len, List.length_take, hl]; exact Nat.min_comm _ _
 by_cases h0 : Nat.min m dl = 0
 ·refine ⟨_, w, run_copy_none (P := Tryz.prog) w _ _ ty 5 _ va dl dc m vc Tryz.underlying47 hsz h0, ?_, Save.refl _ _ _⟩
  have : l.take dl = [] := by apply List.eq_nil_of_length_eq_zero; rw [<- bA_toList_len, hcl, h0]
  rw [this]
  simpa [splice] using hg
 ·have h0' : 0 < min m dl := Nat.pos_of_ne_zero h0
  obtain ⟨g2, o2, rfl, h2, h3, h4⟩ := hb.2 (by rw [hl]; omega)
  have hr := run_copy_row (P := Tryz.prog) w 47 47 ty 5 g o dl dc ⟨g2, o2, none⟩ m vc (bA cur) t (bA (l.take dl)).toList Tryz.underlying47 hsz hg hcl
   (fun j v hj => by
    have hjl := (List.getElem?_eq_some_iff.1 hj).1
    rw [hcl] at hjl
    have hjl' : j < min m dl := hjl
    rw [Array.getElem?_toList, bA_get _ j (by rw [List.length_take, hl]; omega)] at hj
    rw [add_plain, h4 j (by rw [hl]; omega), <- hj, List.getD_eq_getElem?_getD, List.getD_eq_getElem?_getD, List.getElem?_take_of_lt (by omega)])
   (by rw [hcl, bA_size]; have : Nat.min m dl <= dl := Nat.min_le_right _ _; omega)
   (by have := bA_one (l.take dl); rw [<- Array.all_toList, List.all_eq_true] at this; exact this)
  refine ⟨_, _, hr, ?_, ⟨⟨rfl, rfl, rfl, by simp [World.setRow], fun k hk => setRow_other w g k _ (by omega)⟩, fun k _ hk => setRow_other w g k _ hk⟩⟩
  have he : ((bA cur).toList.take o ++ (bA (l.take dl)).toList ++ (bA cur).toList.drop (o + (bA (l.take dl)).toList.length)).toArray = bA (splice cur o (l.take dl)) := by
   unfold splice bA
   simp
  rw [setRow_heap w g _ _ t _ hg, he]
theorem splice_pad (l : List Nat) (n : Nat) : splice (List.replicate n 0) 0 (l.take n) = padB l n := by
 unfold splice padB
 simp
 by_cases h : l.length <= n
 ·rw [Nat.min_eq_right h]
 ·rw [Nat.min_eq_left (by omega), show n - n = 0 by omega, show n - l.length = 0 by omega]
theorem padB_len (l : List Nat) (n : Nat) : (padB l n).length = n := by unfold padB; simp; omega
theorem padB_lt (l : List Nat) (n : Nat) (h : ∀ x ∈ l, x < 256) : ∀ x ∈ padB l n, x < 256 := by
 unfold padB
 refine app_lt (fun x hx => h x (List.mem_of_mem_take hx)) (fun x hx => ?_)
 have := (List.mem_replicate.1 hx).2; omega
theorem pad_c (va : Option Addr) (m vc : Nat) (l : List Nat) (hl : l.length = m) (hl1 : m <= 1000000) (n : Nat) (h1 : 1 <= n) (hn : n <= 65536) (N : Int) (hN : N = n) (w : World) (hb : BytesAt w va vc l) :
  Calls Tryz.prog 88 #[.slice va m vc, .int .i64 N] w fun e w' => ∃ b, e = .returned (.slice (some ⟨b, 0, none⟩) n n) /\ w.heap.size <= b /\ b < w'.heap.size /\ w'.heap[b]? = some (.cells (bA (padB l n)) 5 (0, 0)) /\ Below w.heap.size w w' := by
 subst hN
 have hmk := mk_bytes n (by omega)
 have d1 : decide ((n : Int) < 1) = false := by simp; omega
 have d2 : decide ((n : Int) > 65536) = false := by simp; omega
 have hbel := below_box w (.cells (bA (List.replicate n 0)) 5)
 obtain ⟨v2, w2, hcp, hg2, hs2⟩ := run_copy_bytes (o := 0) (dl := n) (dc := n) (cur := List.replicate n 0) (heap_new' w (.cells (bA (List.replicate n 0)) 5)) (by simp) hl (hb.up hbel (Nat.le_refl _)) 3
 rw [splice_pad] at hg2
 have HG2 := Lib.hid hg2
 have HB2 : Hid (Below w.heap.size w w2) := hbel.trans hs2.1
 clear hb hl hbel hg2 hs2 hl1
 go_enter Tryz.func88, Tryz.ntmps88
 go_wp2
 go_ret
 exact ⟨_, rfl, Nat.le_refl _, lt_of_block HG2.out, HG2.out, HB2.out⟩
/-- a place in memory -/
def plA (p s q : Nat) : Array Value := #[.int .i64 (p : Int), .int .i64 (s : Int), .int .u64 (q : Int)]
def placeB (p s q : Nat) : Bool := decide (p < 64) && decide (s < 16) && decide (0 < q) && decide (q <= 281474976710655)
theorem placemay_c (p s q : Nat) (w : World) :
  Calls Tryz.prog 80 #[.agg (plA p s q)] w fun e w' => e = .returned (.bool (placeB p s q)) /\ Below w.heap.size w w' := by
 have hb : ∀ o : Obj, Below w.heap.size w (w.alloc o) := fun o => below_box w o
 have HB := Lib.hid hb
 clear hb
 have p0 : decide ((p : Int) >= 0) = true := by simp
 have s0 : decide ((s : Int) >= 0) = true := by simp
 obtain ⟨r, hr⟩ : ∃ r, r = placeB p s q := ⟨_, rfl⟩
 rw [<- hr]
 unfold placeB at hr
 show Calls _ _ #[.agg #[.int .i64 (p : Int), .int .i64 (s : Int), .int .u64 (q : Int)]] w _
 by_cases h1 : p < 64
 ·have d1 : decide ((p : Int) < 64) = true := by simp; omega
  have i1 : (p : Int) < 64 := by omega
  by_cases h2 : s < 16
  ·have d2 : decide ((s : Int) < 16) = true := by simp; omega
   have i2 : (s : Int) < 16 := by omega
   by_cases h3 : 0 < q
   ·have d3 : decide ((q : Int) > 0) = true := by simp; omega
    have i3 : 0 < (q : Int) := by omega
    by_cases h4 : q <= 281474976710655
    ·have d4 : decide ((q : Int) <= 281474976710655) = true := by simp; omega
     have i4 : (q : Int) <= 281474976710655 := by omega
     have hr2 : r = true := by rw [hr]; simp; omega
     clear hr h1 h2 h3 h4
     subst hr2
     go_enter Tryz.func80, Tryz.ntmps80
     go_wp2
     go_ret
     exact ⟨rfl, HB.out _⟩
    ·have d4 : decide ((q : Int) <= 281474976710655) = false := by simp; omega
     have i4 : ¬ (q : Int) <= 281474976710655 := by omega
     have hr2 : r = false := by rw [hr]; simp; omega
     clear hr h1 h2 h3 h4
     subst hr2
     go_enter Tryz.func80, Tryz.ntmps80
     go_wp2
     go_ret
     exact ⟨rfl, HB.out _⟩
   ·have d3 : decide ((q : Int) > 0) = false := by simp; omega
    have i3 : ¬ 0 < (q : Int) := by omega
    have hr2 : r = false := by rw [hr]; simp; omega
    clear hr h1 h2 h3
    subst hr2
    go_enter Tryz.func80, Tryz.ntmps80
    go_wp2
    go_ret
    exact ⟨rfl, HB.out _⟩
  ·have d2 : decide ((s : Int) < 16) = false := by simp; omega
   have i2 : ¬ (s : Int) < 16 := by omega
   have hr2 : r = false := by rw [hr]; simp; omega
   clear hr h1 h2
   subst hr2
   go_enter Tryz.func80, Tryz.ntmps80
   go_wp2
   go_ret
   exact ⟨rfl, HB.out _⟩
 ·have d1 : decide ((p : Int) < 64) = false := by simp; omega
  have i1 : ¬ (p : Int) < 64 := by omega
  have hr2 : r = false := by rw [hr]; simp; omega
  clear hr h1
  subst hr2
  go_enter Tryz.func80, Tryz.ntmps80
  go_wp2
  go_ret
  exact ⟨rfl, HB.out _⟩
def hPage (h : Nat) : Nat := h / 72057594037927936
def hSlot (h : Nat) : Nat := h / 281474976710656 % 256
def hSer (h : Nat) : Nat := h % 281474976710656
def hOK (h : Nat) : Bool := placeB (hPage h) (hSlot h) (hSer h)
/-- a handle's place, as answered -/
def hRes (r : Bool) (p s q : Nat) : Value := if r then .tuple #[.agg (plA p s q), .bool true] else .tuple #[.agg (plA 0 0 0), .bool false]
theorem place3 : (Tryz.prog.info? 106).map (·.size) = some 3 := by kernel_rfl
theorem plA_one (p s q : Nat) : (plA p s q).all (·.oneCell') = true := by simp [plA, Value.oneCell']
theorem hplace_c (h : Nat) (hh : h < 18446744073709551616) (w : World) :
  Calls Tryz.prog 51 #[.int .u64 (h : Int)] w fun e w' => e = .returned (hRes (hOK h) (hPage h) (hSlot h) (hSer h)) /\ Below w.heap.size w w' := by
 have e1 : (h : Int) / 72057594037927936 = (hPage h : Int) := by unfold hPage; omega
 have e2 : bits BinOp.and IntKind.u64 ((h : Int) / 281474976710656) 255 = (hSlot h : Int) := by
  have := u64_and_nat (h / 281474976710656) 255 (by omega) (by omega)
  rw [show (h : Int) / 281474976710656 = ((h / 281474976710656 : Nat) : Int) by omega]
  rw [show ((255 : Nat) : Int) = (255 : Int) from rfl] at this
  rw [this]
  unfold hSlot
  rw [show (255 : Nat) = 2 ^ 8 - 1 from rfl, Nat.and_two_pow_sub_one_eq_mod]
 have e3 : bits BinOp.and IntKind.u64 (h : Int) 281474976710655 = (hSer h : Int) := by
  have := u64_and_nat h 281474976710655 (by omega) (by omega)
  rw [show ((281474976710655 : Nat) : Int) = (281474976710655 : Int) from rfl] at this
  rw [this]
  unfold hSer
  rw [show (281474976710655 : Nat) = 2 ^ 48 - 1 from rfl, Nat.and_two_pow_sub_one_eq_mod]
 obtain ⟨p, hp⟩ : ∃ p, p = hPage h := ⟨_, rfl⟩
 obtain ⟨s, hs⟩ : ∃ s, s = hSlot h := ⟨_, rfl⟩
 obtain ⟨q, hq⟩ : ∃ q, q = hSer h := ⟨_, rfl⟩
 have HOK : Hid (hOK h = placeB p s q) := by show _ = _; rw [hp, hs, hq]; rfl
 rw [<- hp] at e1
 rw [<- hs] at e2
 rw [<- hq] at e3
 rw [<- hp, <- hs, <- hq, HOK.out]
 have ep : wrap64 (p : Int) = (p : Int) := IntWalk.wrap64_in _ (by rw [hp]; unfold hPage; omega)
 have es : wrap64 (s : Int) = (s : Int) := IntWalk.wrap64_in _ (by rw [hs]; unfold hSlot; omega)
 clear hp hs hq HOK hh
 have HP := Lib.hid (placemay_c p s q)
 obtain ⟨r, hr⟩ : ∃ r, r = placeB p s q := ⟨_, rfl⟩
 rw [<- hr] at HP ⊢
 clear hr
 go_enter Tryz.func51, Tryz.ntmps51
 go_wp2_with fail
 have hA : Hid (((w.alloc (.cells #[.int .i64 0, .int .i64 0, .int .u64 0] 106)).alloc (.cells #[.int .i64 (p : Int), .int .i64 (s : Int), .int .u64 (q : Int)] 106)).heap[w.heap.size]? = some (.cells (plA 0 0 0) 106 (0, 0))) := by
  show _ = _; rw [heap_old' _ _ _ (by simp)]; exact heap_new' _ _
 have hB : Hid (((w.alloc (.cells #[.int .i64 0, .int .i64 0, .int .u64 0] 106)).alloc (.cells #[.int .i64 (p : Int), .int .i64 (s : Int), .int .u64 (q : Int)] 106)).heap[w.heap.size + 1]? = some (.cells (plA p s q) 106 (0, 0))) := by
  show _ = _; rw [show w.heap.size + 1 = (w.alloc (.cells #[.int .i64 0, .int .i64 0, .int .u64 0] 106)).heap.size by simp]; exact heap_new' _ _
 have hW : Hid (Below w.heap.size w ((w.alloc (.cells #[.int .i64 0, .int .i64 0, .int .u64 0] 106)).alloc (.cells #[.int .i64 (p : Int), .int .i64 (s : Int), .int .u64 (q : Int)] 106))) := ((Below.refl _ _).alloc (Nat.le_refl _) _).alloc (by simp) _
 generalize (w.alloc (.cells #[.int .i64 0, .int .i64 0, .int .u64 0] 106)).alloc (.cells #[.int .i64 (p : Int), .int .i64 (s : Int), .int .u64 (q : Int)] 106) = w1 at *
 refine (HP.out w1).mono ?_
 rintro e w2 ⟨rfl, hb2⟩
 have hA2 := Lib.hid ((hb2.block _ (lt_of_block hA.out)).trans hA.out)
 have hB2 := Lib.hid ((hb2.block _ (lt_of_block hB.out)).trans hB.out)
 have hW2 := Lib.hid (hW.out.trans (hb2.mono hW.out.size))
 clear hA hB hW hb2
 cases r with
 | true =>
  go_wp2_with (first
   | (refine wpList_load_row rfl 106 (.tmp 4) rfl (w.heap.size + 1) rfl _ _ _ _ hB2.out Tryz.underlying106 rfl (by rw [place3]; rfl) ?_)
   | (refine wpList_store_row rfl 106 (.tmp 2) (.tmp 19) rfl w.heap.size (plA p s q) rfl rfl 106 _ hA2.out (by rw [place3]; rfl) rfl (plA_one _ _ _) ?_)
   | fail)
  refine bodyPost_ret (results_row_tmp rfl _ _ w.heap.size _ (plA p s q) (0, 0) _ rfl (setRow_heap _ _ _ _ _ _ hA2.out) Tryz.underlying106 rfl (by rw [place3]; rfl)) rfl ?_
  exact ⟨rfl, below_setRow hW2.out (Nat.le_refl _) _⟩
 | false =>
  go_wp2_with (first
   | (refine wpList_store_row rfl 106 (.tmp 2) (.tmp 18) rfl w.heap.size (plA 0 0 0) rfl rfl 106 _ hA2.out (by rw [place3]; rfl) rfl (plA_one _ _ _) ?_)
   | fail)
  refine bodyPost_ret (results_row_tmp rfl _ _ w.heap.size _ (plA 0 0 0) (0, 0) _ rfl (setRow_heap _ _ _ _ _ _ hA2.out) Tryz.underlying106 rfl (by rw [place3]; rfl)) rfl ?_
  exact ⟨rfl, below_setRow hW2.out (Nat.le_refl _) _⟩
end Go.Proofs.YtpbmjfjnmcpieaaGreat
namespace Go.Proofs.YtpbmjfjnmcpieaaGreat
open Go Go.RowKit
/-- a head in memory: the next serial, sixteen roots -/
def rtA (n : Nat) (L : List Nat) : Array Value := (Value.int .u64 (n : Int) :: L.map fun (k : Nat) => Value.int .u64 (k : Int)).toArray
def hA (L : List Nat) : Array Value := (L.map fun (k : Nat) => Value.int .u64 (k : Int)).toArray
theorem rtA_size (n : Nat) (L : List Nat) : (rtA n L).size = L.length + 1 := by simp [rtA]
theorem rt_roots {w : World} {g n : Nat} {L : List Nat} {t : TypeId} (h : w.heap[g]? = some (.cells (rtA n L) t (0, 0))) : w.rangeAt g 1 (L.map fun (k : Nat) => Value.int .u64 (k : Int)) := by
 intro j u hu
 rw [cells_at h (1 + j), Nat.add_comm 1 j]
 unfold rtA
 rw [List.getElem?_toArray, List.getElem?_cons_succ]
 exact hu
theorem handles16 : (Tryz.prog.info? 58).map (·.size) = some 16 := by kernel_rfl
theorem roots17 : (Tryz.prog.info? 60).map (·.size) = some 17 := by kernel_rfl
theorem handle1 : (Tryz.prog.info? 57).map (·.size) = some 1 := by kernel_rfl
theorem index_H (L : List Nat) (h : L.length = 16) (k : Nat) (hk : k < 16) (w : World) : (Instr.index 58 (.agg (L.map fun (n : Nat) => Value.int .u64 (n : Int)).toArray) (.int .i64 (k : Int))).run Tryz.prog w = .ok (.int .u64 ((L.getD k 0 : Nat) : Int)) w := by
 have hn : (0 <= (k : Int) /\ (k : Int) < ((16 : Nat) : Int)) := by omega
 obtain ⟨i, hi, hs⟩ := Option.map_eq_some_iff.1 handle1
 have hg : L[k]? = some (L.getD k 0) := by
  rw [List.getD_eq_getElem?_getD, List.getElem?_eq_getElem (by omega)]; rfl
 generalize L.getD k 0 = r at *
 simp [Instr.index, run_underlying Tryz.underlying58, asIntOf, hk, go_sem, sizeOf, typeInfo, hi, hs, hg]
def hGood (h : Nat) : Bool := h == 0 || hOK h
/-- may a head be -/
def rightR (n : Nat) (L : List Nat) : Bool := L.all hGood && decide (0 < n) && decide (n <= 281474976710656)
theorem getD_u64 {L : List Nat} (h : ∀ x ∈ L, x < 18446744073709551616) (j : Nat) : L.getD j 0 < 18446744073709551616 := by
 rw [List.getD_eq_getElem?_getD]
 rcases Nat.lt_or_ge j L.length with hj | hj
 ·rw [List.getElem?_eq_getElem hj]; exact h _ (List.getElem_mem _)
 ·rw [List.getElem?_eq_none hj]; decide
theorem all_getD {L : List Nat} (f : Nat -> Bool) (h : ∀ j, j < L.length -> f (L.getD j 0) = true) : L.all f = true := by
 rw [List.all_eq_true]
 intro r hr
 obtain ⟨k, hk, rfl⟩ := List.getElem_of_mem hr
 have := h k hk
 rw [List.getD_eq_getElem?_getD, List.getElem?_eq_getElem hk] at this
 exact this
theorem not_all_getD {L : List Nat} (f : Nat -> Bool) (k : Nat) (hk : k < L.length) (h : f (L.getD k 0) = false) : L.all f = false := by
 rw [List.all_eq_false]
 refine ⟨L[k], List.getElem_mem _, ?_⟩
 rw [List.getD_eq_getElem?_getD, List.getElem?_eq_getElem hk] at h
 simpa using h
theorem rtmay_c (n : Nat) (L : List Nat) (h16 : L.length = 16) (hL : ∀ x ∈ L, x < 18446744073709551616) (w : World) :
  Calls Tryz.prog 89 #[.agg (rtA n L)] w fun e w' => e = .returned (.bool (rightR n L)) /\ Below w.heap.size w w' := by
 have hblk := heap_new' w (.cells (rtA n L) 60)
 have HBLK := Lib.hid hblk
 have HRR := Lib.hid (rt_roots hblk)
 have HBE := Lib.hid (below_box w (.cells (rtA n L) 60))
 have H16 := Lib.hid h16
 have HU := Lib.hid hL
 have HIX := Lib.hid (index_H L h16)
 clear hblk h16 hL
 go_enter Tryz.func89, Tryz.ntmps89
 go_wp2_with (first
  | (refine wpList_load_mid rfl 58 (.tmp 8) rfl w.heap.size 1 rfl _ _ HRR.out Tryz.underlying58 rfl (by rw [handles16, List.length_map, H16.out]) ?_)
  | fail)
 generalize w.alloc (.cells (rtA n L) 60) = w0 at *
 go_loopw [10] (fun vi wr => ∃ k : Nat, k <= 16 /\ vi = .int .i64 (k : Int) /\ Hid (∀ j, j < k -> hGood (L.getD j 0) = true) /\ Hid (wr.heap[w.heap.size]? = some (.cells (rtA n L) 60 (0, 0))) /\ Hid (Below w.heap.size w wr)) (fun vi _ => 16 - (intOf vi).toNat)
 case atStart => exact ⟨0, by omega, rfl, fun j h => by omega, HBLK.out, HBE.out⟩
 case round =>
  clear HBLK HBE HRR
  obtain ⟨k, hk, rfl, hall, hB, hbel⟩ := hrel
  by_cases hlt : k < 16
  ·have hd : decide ((k : Int) < 16) = true := by simp; omega
   have dl : (k : Int) < 16 := by omega
   have hix := HIX.out k hlt
   obtain ⟨r, hr⟩ : ∃ r, r = L.getD k 0 := ⟨_, rfl⟩
   rw [<- hr] at hix
   have HR := Lib.hid hr
   have HK := Lib.hid hlt
   have HP := Lib.hid (fun w => hplace_c r (by rw [hr]; exact getD_u64 HU.out k) w)
   clear hr hk hlt
   go_wp2_with fail
   refine (HP.out _).mono ?_
   rintro e w2 ⟨rfl, hb2⟩
   have hB2 := Lib.hid ((hb2.block _ (lt_of_block hB.out)).trans hB.out)
   have hW2 := Lib.hid (hbel.out.trans (hb2.mono hbel.out.size))
   have HZ2 : Hid ((w2.alloc (.cells #[.int .i64 0, .int .i64 0, .int .u64 0] 106)).heap[w2.heap.size]? = some (.cells (plA 0 0 0) 106 (0, 0))) := heap_new' _ _
   have hB3 : Hid ((w2.alloc (.cells #[.int .i64 0, .int .i64 0, .int .u64 0] 106)).heap[w.heap.size]? = some (.cells (rtA n L) 60 (0, 0))) := (heap_old' _ _ _ (lt_of_block hB2.out)).trans hB2.out
   have hW3 : Hid (Below w.heap.size w (w2.alloc (.cells #[.int .i64 0, .int .i64 0, .int .u64 0] 106))) := hW2.out.trans ((below_box w2 _).mono hW2.out.size)
   have HQ : Hid (w.heap.size < w2.heap.size /\ w.heap.size ≠ w2.heap.size) := by have := lt_of_block hB2.out; exact ⟨this, by omega⟩
   clear hb2 hB hbel hB2 hW2 HP
   by_cases hok : hOK r = true
   ·have HG : Hid (hGood r = true) := by show _ = _; unfold hGood; rw [hok]; simp
    have hres : hRes (hOK r) (hPage r) (hSlot r) (hSer r) = .tuple #[.agg (plA (hPage r) (hSlot r) (hSer r)), .bool true] := by rw [hok]; rfl
    rw [hres]
    generalize hPage r = p at *
    generalize hSlot r = s at *
    generalize hSer r = q at *
    clear hok hres
    go_wp2_with (first
     | (refine wpList_store_row rfl 106 (.tmp 6) (.tmp 18) rfl w2.heap.size (plA p s q) rfl rfl 106 _ HZ2.out (by rw [place3]; rfl) rfl (plA_one _ _ _) ?_)
     | fail)
    all_goals
     go_roundw
     case rel =>
      refine ⟨k + 1, by have := HK.out; omega, by go_num, fun j hj => ?_, ?_, below_setRow hW3.out (by have := HQ.out.1; omega) _⟩
      ·rcases Nat.lt_or_eq_of_le (Nat.le_of_lt_succ hj) with h | h
       ·exact hall.out j h
       ·subst h; rw [<- HR.out]; exact HG.out
      ·show _ = _; rw [setRow_other _ _ _ _ HQ.out.2]; exact hB3.out
     case measure => simp [intOf]; have := HK.out; omega
   ·have hok' : hOK r = false := by simpa using hok
    have hres : hRes (hOK r) (hPage r) (hSlot r) (hSer r) = .tuple #[.agg (plA 0 0 0), .bool false] := by rw [hok']; rfl
    rw [hres]
    by_cases h0 : r = 0
    ·have HG : Hid (hGood r = true) := by show _ = _; unfold hGood; rw [h0]; rfl
     have e0 : ((r : Int) == 0) = true := by rw [h0]; rfl
     clear hok hok' hres h0
     go_wp2_with (first
      | (refine wpList_store_row rfl 106 (.tmp 6) (.tmp 18) rfl w2.heap.size (plA 0 0 0) rfl rfl 106 _ HZ2.out (by rw [place3]; rfl) rfl (plA_one _ _ _) ?_)
      | fail)
     all_goals
      go_roundw
      case rel =>
       refine ⟨k + 1, by have := HK.out; omega, by go_num, fun j hj => ?_, ?_, below_setRow hW3.out (by have := HQ.out.1; omega) _⟩
       ·rcases Nat.lt_or_eq_of_le (Nat.le_of_lt_succ hj) with h | h
        ·exact hall.out j h
        ·subst h; rw [<- HR.out]; exact HG.out
       ·show _ = _; rw [setRow_other _ _ _ _ HQ.out.2]; exact hB3.out
      case measure => simp [intOf]; have := HK.out; omega
    ·have e0 : ((r : Int) == 0) = false := by rw [beq_eq_false_iff_ne]; omega
     have HG : Hid (rightR n L = false) := by
      show _ = _; unfold rightR
      rw [not_all_getD hGood k (by rw [H16.out]; exact HK.out) (by rw [<- HR.out]; unfold hGood; rw [hok']; simp [h0])]; rfl
     clear hok hok' hres
     go_wp2_with (first
      | (refine wpList_store_row rfl 106 (.tmp 6) (.tmp 18) rfl w2.heap.size (plA 0 0 0) rfl rfl 106 _ HZ2.out (by rw [place3]; rfl) rfl (plA_one _ _ _) ?_)
      | fail)
     go_ret
     exact ⟨by rw [HG.out]; rfl, below_setRow hW3.out (by have := HQ.out.1; omega) _⟩
  ·have hd : decide ((k : Int) < 16) = false := by simp; omega
   have dl : ¬ (k : Int) < 16 := by omega
   have ha : L.all hGood = true := all_getD hGood fun j hj => hall.out j (by rw [H16.out] at hj; omega)
   have c0 := (cells_at hB.out 0).trans (show _ = some (Value.int .u64 (n : Int)) from rfl)
   have HW := hbel
   have HR1 : Hid (rightR n L = (decide (0 < n) && decide (n <= 281474976710656))) := by show _ = _; unfold rightR; rw [ha]; rfl
   clear hbel hB hall ha HIX HU H16
   by_cases h1 : 0 < n
   ·have d1 : decide ((n : Int) > 0) = true := by simp; omega
    have i1 : 0 < (n : Int) := by omega
    by_cases h2 : n <= 281474976710656
    ·have d2 : decide ((n : Int) <= 281474976710656) = true := by simp; omega
     have i2 : (n : Int) <= 281474976710656 := by omega
     have HR2 : Hid (rightR n L = true) := by show _ = _; rw [HR1.out]; simp; omega
     clear h1 h2
     go_wp2
     go_ret
     exact ⟨by rw [HR2.out]; rfl, HW.out⟩
    ·have d2 : decide ((n : Int) <= 281474976710656) = false := by simp; omega
     have i2 : ¬ (n : Int) <= 281474976710656 := by omega
     have HR2 : Hid (rightR n L = false) := by show _ = _; rw [HR1.out]; simp; omega
     clear h1 h2
     go_wp2
     go_ret
     exact ⟨by rw [HR2.out]; rfl, HW.out⟩
   ·have d1 : decide ((n : Int) > 0) = false := by simp; omega
    have i1 : ¬ 0 < (n : Int) := by omega
    have HR2 : Hid (rightR n L = false) := by show _ = _; rw [HR1.out]; simp; omega
    clear h1
    go_wp2
    go_ret
    exact ⟨by rw [HR2.out]; rfl, HW.out⟩
theorem sixteenU {R : List Nat} (h : R.length = 16) : ∃ r0 r1 r2 r3 r4 r5 r6 r7 r8 r9 r10 r11 r12 r13 r14 r15, R = [r0, r1, r2, r3, r4, r5, r6, r7, r8, r9, r10, r11, r12, r13, r14, r15] := by
 match R, h with
 | [r0, r1, r2, r3, r4, r5, r6, r7, r8, r9, r10, r11, r12, r13, r14, r15], _ => exact ⟨r0, r1, r2, r3, r4, r5, r6, r7, r8, r9, r10, r11, r12, r13, r14, r15, rfl⟩
theorem roots_formed (n : Nat) (L : List Nat) (h : L.length = 16) : (Value.agg (rtA n L)).formed Tryz.prog 60 = true := by
 obtain ⟨r0, r1, r2, r3, r4, r5, r6, r7, r8, r9, r10, r11, r12, r13, r14, r15, rfl⟩ := sixteenU h
 kernel_rfl
theorem u64_wf (n : Nat) (h : n < 18446744073709551616) : (Lit.int .u64 (n : Int)).wf = true := by
 have hmin : IntKind.u64.min = 0 := rfl
 have hmax : IntKind.u64.max = 18446744073709551615 := rfl
 simp only [Lit.wf, Bool.and_eq_true, decide_eq_true_eq]
 omega
theorem cellsU : Tryz.prog.cellsOf 22 = 1 := by kernel_rfl
theorem cellsH : Tryz.prog.cellsOf 57 = 1 := by kernel_rfl
theorem cellsHH : Tryz.prog.cellsOf 58 = 16 := by kernel_rfl
theorem cellsR : Tryz.prog.cellsOf 60 = 17 := by kernel_rfl
def rtLits (n : Nat) (L : List Nat) : List Lit := Lit.int .u64 (n : Int) :: L.map fun (k : Nat) => Lit.int .u64 (k : Int)
theorem roots_lits (n : Nat) (L : List Nat) (h : L.length = 16) (hn : n < 18446744073709551616) (hL : ∀ x ∈ L, x < 18446744073709551616) : Tryz.prog.keyLits 4 60 (Value.agg (rtA n L)).cells.toList = some (rtLits n L) := by
 obtain ⟨r0, r1, r2, r3, r4, r5, r6, r7, r8, r9, r10, r11, r12, r13, r14, r15, rfl⟩ := sixteenU h
 have hn' := u64_wf n hn
 have hL' : ∀ x ∈ [r0, r1, r2, r3, r4, r5, r6, r7, r8, r9, r10, r11, r12, r13, r14, r15], (Lit.int .u64 ((x : Nat) : Int)).wf = true := fun x hx => u64_wf x (hL x hx)
 simp only [List.forall_mem_cons] at hL'
 have hu : ∀ (k : Int), (Lit.int .u64 k).wf = true -> Tryz.prog.keyLits 1 22 [.int .u64 k] = some [.int .u64 k] := fun k hk => by
  simp [Program.keyLits, Tryz.underlying22, hk]
 have hv : ∀ (k : Int), (Lit.int .u64 k).wf = true -> Tryz.prog.keyLits 2 57 [.int .u64 k] = some [.int .u64 k] := fun k hk => by
  simp [Program.keyLits, Tryz.underlying57, hk]
 simp [rtA, rtLits, Program.keyLits, Value.cells, Tryz.underlying60, Tryz.underlying58, Tryz.underlying22, Tryz.underlying57, cellsU, cellsH, cellsHH, cellsR, List.range, List.range.loop, hn', hL', hu, hv]
theorem rtLits_inj {n m : Nat} {L M : List Nat} : rtLits n L = rtLits m M ↔ n = m /\ L = M := by
 unfold rtLits
 rw [List.cons.injEq, Lit.int.injEq]
 constructor
 ·rintro ⟨⟨_, h1⟩, h2⟩
  refine ⟨by omega, ?_⟩
  have hinj : ∀ a b : Nat, Lit.int .u64 (a : Int) = Lit.int .u64 (b : Int) -> a = b := fun a b h => by
   rw [Lit.int.injEq] at h; omega
  exact (List.map_inj_right hinj).1 h2
 ·rintro ⟨rfl, rfl⟩
  exact ⟨⟨rfl, rfl⟩, rfl⟩
theorem eql_roots (n m : Nat) (L M : List Nat) (h : L.length = 16) (h' : M.length = 16) (hn : n < 18446744073709551616) (hm : m < 18446744073709551616) (hL : ∀ x ∈ L, x < 18446744073709551616) (hM : ∀ x ∈ M, x < 18446744073709551616) (w : World) :
  (binOp .eql 60 (.agg (rtA n L)) (.agg (rtA m M))).run Tryz.prog w = .ok (.bool (decide (n = m /\ L = M))) w := by
 obtain ⟨r, hr, hiff⟩ := run_equalIn_deep (P := Tryz.prog) 9996 4 60 (by kernel_rfl) w 4 4 _ _ _ _ (roots_formed n L h) (roots_formed m M h') (roots_lits n L h hn hL) (roots_lits m M h' hm hM)
 rw [rtLits_inj] at hiff
 rw [run_eql_struct, hr]
 have : r = decide (n = m /\ L = M) := by rw [Bool.eq_iff_iff, hiff]; simp
 rw [this]; rfl
/-- an operation '==' of two structs, its answer known -/
theorem wpList_eql_agg {w : World} {ops : Array Oper} {rest : List Oper} {op : Oper} {A : Act} {Q : Exit -> Act -> World -> Prop} (hw : Region.wanted op (yielded ops A.tmps) = true) (T ty : TypeId) (x y : Operand) (ho : op.op = .binOp .eql T x y ty) (xs ys : Array Value) (hx : A.eval x = .agg xs) (hy : A.eval y = .agg ys)
  (hm : Tryz.prog.eqGuardType Tryz.prog.depth T = false) (b : Bool) (hr : (binOp .eql T (.agg xs) (.agg ys)).run Tryz.prog w = .ok (.bool b) w) (hK : wpList Tryz.prog ops Q rest (A.put op.dst (.bool b)) w) : wpList Tryz.prog ops Q (op :: rest) A w :=
 wpList_met hw fun _ hk => by
  unfold Oper.wp
  have : (execOp A.eval op).run Tryz.prog w = .ok (.value (.bool b)) w := by
   unfold execOp
   simp only [ho, hx, hy, Sem.run_bind, run_eqGuard_agg _ _ _ _ _ _ _ hm, Result.andThen_ok, hr]
   rfl
  rw [this]
  exact hk _ _ hK
end Go.Proofs.YtpbmjfjnmcpieaaGreat
namespace Go.Proofs.YtpbmjfjnmcpieaaGreat
open Go Go.RowKit
def numsH (L : List Nat) : List Nat := L.flatMap fun r => lowB 8 r
def rtBody (n : Nat) (L : List Nat) : List Nat := lowB 8 n ++ numsH L
/-- a head's block -/
def rtBytes (n : Nat) (L : List Nat) : List Nat := padB (rtBody n L) 256
theorem numsH_succ (R : List Nat) (k : Nat) (h : k < R.length) : numsH (R.take (k + 1)) = numsH (R.take k) ++ lowB 8 (R.getD k 0) := by
 unfold numsH
 rw [List.take_succ_eq_append_getElem h, List.flatMap_append, List.getD_eq_getElem?_getD, List.getElem?_eq_getElem h]; simp
theorem numsH_len (R : List Nat) : (numsH R).length = 8 * R.length := by
 unfold numsH
 induction R with
 | nil => rfl
 | cons r R ih => rw [List.flatMap_cons, List.length_append, ih, lowB_len, List.length_cons]; omega
theorem numsH_lt (R : List Nat) : ∀ x ∈ numsH R, x < 256 := flat_lt R _ fun a _ => lowB_lt 8 a
theorem rtBody_lt (n : Nat) (L : List Nat) : ∀ x ∈ rtBody n L, x < 256 := app_lt (lowB_lt 8 n) (numsH_lt L)
theorem rtBytes_len (n : Nat) (L : List Nat) : (rtBytes n L).length = 256 := padB_len _ _
theorem rtBytes_lt (n : Nat) (L : List Nat) : ∀ x ∈ rtBytes n L, x < 256 := padB_lt _ _ (rtBody_lt n L)
theorem zeros16 : ∀ x ∈ List.replicate 16 0, x < 18446744073709551616 := fun x hx => by have := (List.mem_replicate.1 hx).2; omega
theorem own_blk {w : World} {base b n : Nat} {l : List Nat} (h : w.heap[b]? = some (.cells (bA l) 5 (0, 0))) (hn : l.length = n) (hm : n <= 1000000) (hb : base <= b) : w.ownsRow base 5 1 (.slice (some ⟨b, 0, none⟩) n n) n (bA l).toList := by
 refine ⟨by rw [bA_toList_len, hn, Nat.mul_one], .inr ⟨b, n, bA l, rfl, hb, h, Nat.le_refl _, by unfold maxLen; omega, by rw [bA_size, hn, Nat.mul_one], ?_⟩⟩
 rw [List.take_of_length_le (by rw [bA_toList_len, hn, Nat.mul_one]; exact Nat.le_refl _)]
theorem rtbytes_yes (n : Nat) (L : List Nat) (h16 : L.length = 16) (hL : ∀ x ∈ L, x < 18446744073709551616) (hr : rightR n L = true) (w : World) :
  Calls Tryz.prog 65 #[.agg (rtA n L)] w fun e w' => (∃ b, e = .returned (.tuple #[.slice (some ⟨b, 0, none⟩) 256 256, .int .i64 0]) /\ w.heap.size <= b /\ b < w'.heap.size /\ w'.heap[b]? = some (.cells (bA (rtBytes n L)) 5 (0, 0))) /\ Below w.heap.size w w' := by
 have hn1 : 0 < n /\ n <= 281474976710656 := by
  unfold rightR at hr
  simp only [Bool.and_eq_true, decide_eq_true_eq] at hr
  exact ⟨hr.1.2, hr.2⟩
 have hblk := heap_new' w (.cells (rtA n L) 60)
 have HBLK := Lib.hid hblk
 have HBE := Lib.hid (below_box w (.cells (rtA n L) 60))
 have HM := Lib.hid (fun w => rtmay_c n L h16 hL w)
 rw [hr] at HM
 have H16 := Lib.hid h16
 have HU := Lib.hid hL
 have HIX := Lib.hid (index_H L h16)
 have HEQ : Hid (∀ w, (binOp .eql 60 (.agg (rtA n L)) (.agg (rtA 0 (List.replicate 16 0)))).run Tryz.prog w = .ok (.bool false) w) := fun w => by
  rw [eql_roots n 0 L _ h16 (by simp) (by omega) (by omega) hL zeros16 w]
  rw [show decide (n = 0 /\ L = List.replicate 16 0) = false by simp; omega]
 have HN := Lib.hid hn1
 clear hblk h16 hL hr hn1
 go_enter Tryz.func65, Tryz.ntmps65
 go_wp2_with (first
  | (refine wpList_load_row rfl 60 (.tmp 1) rfl w.heap.size rfl _ _ _ _ HBLK.out Tryz.underlying60 rfl (by rw [roots17, rtA_size, H16.out]) ?_)
  | (refine wpList_eql_agg rfl 60 _ (.tmp 7) (.tmp 8) rfl (rtA n L) (rtA 0 (List.replicate 16 0)) rfl rfl (by kernel_rfl) false (HEQ.out _) ?_)
  | fail)
 generalize w.alloc (.cells (rtA n L) 60) = w0 at *
 refine (HM.out w0).mono ?_
 rintro e w1 ⟨rfl, hb1⟩
 have HB1 := Lib.hid ((hb1.block _ (lt_of_block HBLK.out)).trans HBLK.out)
 have HE1 : Hid (Below w.heap.size w w1) := HBE.out.trans (hb1.mono HBE.out.size)
 have c0 := (cells_at HB1.out 0).trans (show _ = some (Value.int .u64 (n : Int)) from rfl)
 clear hb1 HBLK HBE HEQ HM
 go_wp2_with fail
 refine (put_c 8 n (by have := HN.out.2; omega) (by omega) (by omega) 8 (n : Int) rfl rfl w1).mono ?_
 rintro e w2 ⟨b2, rfl, hb2, hz2, hblk2, hbel2⟩
 have HB2 := Lib.hid ((hbel2.block _ (lt_of_block HB1.out)).trans HB1.out)
 have HE2 : Hid (Below w.heap.size w w2) := HE1.out.trans (hbel2.mono HE1.out.size)
 have HQ2 : Hid (w.heap.size + 1 <= b2) := Nat.le_trans (lt_of_block HB1.out) hb2
 have HO2 : Hid (w2.ownsRow (w.heap.size + 1) 5 1 (.slice (some ⟨b2, 0, none⟩) 8 8) 8 (bA (lowB 8 n ++ numsH (L.take 0))).toList) := by
  show World.ownsRow _ _ _ _ _ _ _
  rw [show lowB 8 n ++ numsH (L.take 0) = lowB 8 n by simp [numsH]]
  exact own_blk hblk2 (lowB_len _ _) (by omega) HQ2.out
 have HRR := Lib.hid (rt_roots HB2.out)
 clear hb2 hz2 hblk2 hbel2 HB1 HE1 c0
 go_wp2_with (first
  | (refine wpList_load_mid rfl 58 (.tmp 17) rfl w.heap.size 1 rfl _ _ HRR.out Tryz.underlying58 rfl (by rw [handles16, List.length_map, H16.out]) ?_)
  | fail)
 go_loopw [4, 19] (fun v vi wr => ∃ k : Nat, k <= 16 /\ vi = .int .i64 (k : Int) /\ ∃ a m c, v = .slice a m c /\ Hid (m = 8 + 8 * k) /\ Hid (wr.ownsRow (w.heap.size + 1) 5 1 (.slice a m c) m (bA (lowB 8 n ++ numsH (L.take k))).toList) /\ Hid (w.heap.size < wr.heap.size) /\ Hid (Below w.heap.size w wr)) (fun _ vi _ => 16 - (intOf vi).toNat)
 case atStart => exact ⟨0, by omega, rfl, _, 8, 8, rfl, rfl, HO2.out, lt_of_block HB2.out, HE2.out⟩
 case round =>
  clear HO2 HB2 HE2 HRR HQ2
  obtain ⟨k, hk, rfl, a, m, c, rfl, hm, hown, hsz, hbel⟩ := hrel
  by_cases hlt : k < 16
  ·have hd : decide ((k : Int) < 16) = true := by simp; omega
   have dl : (k : Int) < 16 := by omega
   have hix := HIX.out k hlt
   obtain ⟨q, hq⟩ : ∃ q, q = L.getD k 0 := ⟨_, rfl⟩
   rw [<- hq] at hix
   have HNS := Lib.hid (numsH_succ L k (by rw [H16.out]; exact hlt))
   rw [<- hq] at HNS
   have HQ : Hid (q < 18446744073709551616) := by show _ < _; rw [hq]; exact getD_u64 HU.out k
   have HK := Lib.hid hlt
   clear hq hlt hk
   go_wp2_with fail
   refine (put_c 8 q HQ.out (by omega) (by omega) 8 (q : Int) rfl rfl wr).mono ?_
   rintro e w3 ⟨b3, rfl, hb3, hz3, hblk3, hbel3⟩
   have HN3 := Lib.hid (bytesAt_block (lowB_lt 8 q) hblk3)
   have HO3 := Lib.hid (own_up hown.out hbel3)
   have HS3 : Hid (w.heap.size < w3.heap.size) := Nat.lt_of_lt_of_le hsz.out hbel3.size
   have HE3 : Hid (Below w.heap.size w w3) := hbel.out.trans (hbel3.mono hbel.out.size)
   have HM3 : Hid (m + 8 <= 1000000 /\ m + 8 = 8 + 8 * (k + 1)) := by have h1 := hm.out; have h2 := HK.out; exact ⟨by omega, by omega⟩
   clear hblk3 hbel3 hb3 hz3 hown hsz hbel hm
   go_wp2_with (first
    | (refine wpList_append_bytes (v := .slice a m c) (base := w.heap.size + 1) (n := m) (m := 8) (l := lowB 8 q) rfl (.tmp 22) (.tmp 24) rfl rfl HO3.out rfl (lowB_len _ _) HN3.out (fun h => by cases h) HM3.out.1 HS3.out ?_; intro v4 w4 hown4 hgr4; rw [bA_app, List.append_assoc, <- HNS.out] at hown4; have HO4 := Lib.hid hown4; have HS4 : Hid (w.heap.size < w4.heap.size) := Nat.lt_of_lt_of_le HS3.out hgr4.size; have HE4 : Hid (Below w.heap.size w w4) := HE3.out.grown hgr4 HE3.out.size (fun k h => by have := (HO3.out.lt k h).1; omega); obtain ⟨a4, c4, hv4⟩ := own_slice hown4; subst hv4; clear hown4 hgr4)
    | fail)
   go_roundw
   case rel => exact ⟨k + 1, by have := HK.out; omega, by go_num, a4, m + 8, c4, rfl, HM3.out.2, HO4.out, HS4.out, HE4.out⟩
   case measure => simp [intOf]; have := HK.out; omega
  ·have hk16 : k = 16 := by omega
   have hd : decide ((k : Int) < 16) = false := by simp; omega
   have dl : ¬ (k : Int) < 16 := by omega
   have HM5 : Hid (m = 136) := by show _ = _; have := hm.out; omega
   have hown5 := hown.out
   rw [show L.take k = L from List.take_of_length_le (by rw [H16.out]; omega)] at hown5
   have HLB : Hid ((rtBody n L).length = m) := by show _ = _; unfold rtBody; rw [List.length_append, lowB_len, numsH_len, H16.out, HM5.out]
   rw [show m = (rtBody n L).length from HLB.out.symm] at hown5
   obtain ⟨a', c', hv', hB', _⟩ := own_bytes (rtBody_lt n L) hown5
   rw [HLB.out] at hv'
   cases hv'
   have HB5 := Lib.hid hB'
   have HE5 := hbel
   clear hm hown hown5 hsz hbel hk16 hk hlt hB'
   go_wp2_with fail
   refine (pad_c a m c (rtBody n L) HLB.out (by have := HM5.out; omega) 256 (by omega) (by omega) 256 rfl wr HB5.out).mono ?_
   rintro e w6 ⟨b6, rfl, hb6, hz6, hblk6, hbel6⟩
   have HB6 : Hid (w6.heap[b6]? = some (.cells (bA (rtBytes n L)) 5 (0, 0))) := hblk6
   have HE6 : Hid (Below w.heap.size w w6) := HE5.out.trans (hbel6.mono HE5.out.size)
   have HQ6 : Hid (w.heap.size <= b6) := Nat.le_trans HE5.out.size hb6
   clear hblk6 hbel6 hb6
   go_wp2
   go_ret2
   exact ⟨⟨b6, rfl, HQ6.out, hz6, HB6.out⟩, HE6.out⟩
theorem rtbytes_no (n : Nat) (L : List Nat) (h16 : L.length = 16) (hn : n < 18446744073709551616) (hL : ∀ x ∈ L, x < 18446744073709551616) (hr : rightR n L = false) (hz : ¬ (n = 0 /\ L = List.replicate 16 0)) (w : World) :
  Calls Tryz.prog 65 #[.agg (rtA n L)] w fun e w' => e = .returned (.tuple #[.slice none 0 0, .int .i64 1]) /\ Below w.heap.size w w' := by
 have hblk := heap_new' w (.cells (rtA n L) 60)
 have HBLK := Lib.hid hblk
 have HBE := Lib.hid (below_box w (.cells (rtA n L) 60))
 have HM := Lib.hid (fun w => rtmay_c n L h16 hL w)
 rw [hr] at HM
 have H16 := Lib.hid h16
 have HEQ : Hid (∀ w, (binOp .eql 60 (.agg (rtA n L)) (.agg (rtA 0 (List.replicate 16 0)))).run Tryz.prog w = .ok (.bool false) w) := fun w => by
  rw [eql_roots n 0 L _ h16 (by simp) hn (by omega) hL zeros16 w]
  rw [show decide (n = 0 /\ L = List.replicate 16 0) = false by simpa using hz]
 clear hblk h16 hL hr hn hz
 go_enter Tryz.func65, Tryz.ntmps65
 go_wp2_with (first
  | (refine wpList_load_row rfl 60 (.tmp 1) rfl w.heap.size rfl _ _ _ _ HBLK.out Tryz.underlying60 rfl (by rw [roots17, rtA_size, H16.out]) ?_)
  | (refine wpList_eql_agg rfl 60 _ (.tmp 7) (.tmp 8) rfl (rtA n L) (rtA 0 (List.replicate 16 0)) rfl rfl (by kernel_rfl) false (HEQ.out _) ?_)
  | fail)
 generalize w.alloc (.cells (rtA n L) 60) = w0 at *
 refine (HM.out w0).mono ?_
 rintro e w1 ⟨rfl, hb1⟩
 have HE1 : Hid (Below w.heap.size w w1) := HBE.out.trans (hb1.mono HBE.out.size)
 clear hb1 HBLK HBE HEQ HM
 go_wp2
 go_ret2
 exact ⟨rfl, HE1.out⟩
theorem bytes_none (w : World) : BytesAt w none 0 [] := ⟨(fun x h => by cases h), (fun h => by cases h)⟩
theorem pad_nilL : padB [] 256 = List.replicate 256 0 := by unfold padB; rw [List.take_nil, List.nil_append]; rfl
theorem rtbytes_zero (w : World) :
  Calls Tryz.prog 65 #[.agg (rtA 0 (List.replicate 16 0))] w fun e w' => (∃ b, e = .returned (.tuple #[.slice (some ⟨b, 0, none⟩) 256 256, .int .i64 0]) /\ w.heap.size <= b /\ b < w'.heap.size /\ w'.heap[b]? = some (.cells (bA (List.replicate 256 0)) 5 (0, 0))) /\ Below w.heap.size w w' := by
 obtain ⟨Z, hZ⟩ : ∃ Z : List Nat, Z = List.replicate 16 0 := ⟨_, rfl⟩
 have H16 : Hid (Z.length = 16) := by show _ = _; rw [hZ]; rfl
 have HBLK := Lib.hid (heap_new' w (.cells (rtA 0 Z) 60))
 have HBE := Lib.hid (below_box w (.cells (rtA 0 Z) 60))
 have HEQ : Hid (∀ w, (binOp .eql 60 (.agg (rtA 0 Z)) (.agg (rtA 0 (List.replicate 16 0)))).run Tryz.prog w = .ok (.bool true) w) := fun w => by
  rw [hZ, eql_roots 0 0 _ _ (by simp) (by simp) (by omega) (by omega) zeros16 zeros16 w]; rfl
 rw [<- hZ]
 clear hZ
 go_enter Tryz.func65, Tryz.ntmps65
 go_wp2_with (first
  | (refine wpList_load_row rfl 60 (.tmp 1) rfl w.heap.size rfl _ _ _ _ HBLK.out Tryz.underlying60 rfl (by rw [roots17, rtA_size, H16.out]) ?_)
  | (refine wpList_eql_agg rfl 60 _ (.tmp 7) (.tmp 8) rfl (rtA 0 Z) (rtA 0 (List.replicate 16 0)) rfl rfl (by kernel_rfl) true (HEQ.out _) ?_)
  | fail)
 generalize w.alloc (.cells (rtA 0 Z) 60) = w0 at *
 refine (pad_c none 0 0 [] rfl (by omega) 256 (by omega) (by omega) 256 rfl w0 (bytes_none _)).mono ?_
 rintro e w1 ⟨b, rfl, hb, hz, hblk, hbel⟩
 rw [pad_nilL] at hblk
 have HB : Hid (w1.heap[b]? = some (.cells (bA (List.replicate 256 0)) 5 (0, 0))) := hblk
 have HE1 : Hid (Below w.heap.size w w1) := HBE.out.trans (hbel.mono HBE.out.size)
 have HQ : Hid (w.heap.size <= b) := Nat.le_trans HBE.out.size hb
 clear hblk hbel hb HBLK HBE HEQ
 go_wp2
 go_ret2
 exact ⟨⟨b, rfl, HQ.out, hz, HB.out⟩, HE1.out⟩
end Go.Proofs.YtpbmjfjnmcpieaaGreat
namespace Go.Proofs.YtpbmjfjnmcpieaaGreat
open Go Go.RowKit
theorem leN_drop (l : List Nat) (j : Nat) (h : j < l.length) : leN (l.drop j) = leN (l.drop (j + 1)) * 256 + l.getD j 0 := by
 rw [List.drop_eq_getElem_cons h, leN, List.getD_eq_getElem?_getD, List.getElem?_eq_getElem h]
 simp only [Option.getD_some]; omega
theorem leN_lt8 (l : List Nat) (h : ∀ x ∈ l, x < 256) (h8 : l.length <= 8) : leN l < 18446744073709551616 := by
 have h1 := leN_lt l h
 have h2 : 2 ^ (8 * l.length) <= 2 ^ 64 := Nat.pow_le_pow_right (by omega) (by omega)
 omega
theorem rget_c (n : Nat) (hn : n <= 8) (a : Option Addr) (cap : Nat) (l : List Nat) (hl : l.length = n) (w : World) (hb : BytesAt w a cap l) :
  Calls Tryz.prog 58 #[.slice a n cap] w fun e w' => e = .returned (.int .u64 (leN l : Int)) /\ w = w' := by
 have HB := Lib.hid hb
 have HL := Lib.hid hl
 have HN := Lib.hid hn
 have d8 : decide ((n : Int) > 8) = false := by simp; omega
 have d9 : ¬ (n : Int) > 8 := by omega
 have en : IntKind.i64.wrap ((n : Int) - 1) = (n : Int) - 1 := IntWalk.i64_in _ (by omega)
 obtain ⟨m, hm⟩ : ∃ m : Int, m = (n : Int) - 1 := ⟨_, rfl⟩
 rw [<- hm] at en
 have HMM := Lib.hid hm
 clear hb hl hn
 go_enter Tryz.func58, Tryz.ntmps58
 go_wp2
 go_loop [3, 4] (fun vv vi => ∃ q : Nat, vv = .int .u64 (q : Int) /\ ((∃ j : Nat, j < n /\ vi = .int .i64 (j : Int) /\ Hid (q = leN (l.drop (j + 1)))) \/ (vi = .int .i64 (-1) /\ Hid (q = leN l)))) (fun _ vi => (intOf vi + 1).toNat)
 case atStart =>
  refine ⟨0, rfl, ?_⟩
  rcases Nat.eq_zero_or_pos n with h0 | h0
  ·refine .inr ⟨?_, ?_⟩
   ·have := HMM.out; simp only [h0] at this ⊢; first | rfl | (congr 1)
   ·have h1 := HL.out; rw [h0] at h1; rw [List.length_eq_zero_iff.1 h1]; exact rfl
  ·refine .inl ⟨n - 1, by omega, ?_, ?_⟩
   ·have h1 := HMM.out; congr 1; omega
   ·show _ = _; rw [List.drop_eq_nil_of_le (by have := HL.out; omega)]; rfl
 case round =>
  obtain ⟨q, rfl, hc⟩ := hrel
  rcases hc with ⟨j, hj, rfl, hq⟩ | ⟨rfl, hq⟩
  ·have dg : decide ((j : Int) >= 0) = true := by simp
   have dl : (j : Int) < (n : Int) := by omega
   have d0 : ¬ (j : Int) < 0 := by omega
   have ej : IntKind.i64.wrap ((j : Int) - 1) = (j : Int) - 1 := IntWalk.i64_in _ (by have := HN.out; omega)
   obtain ⟨g, o, rfl, hcap, hg, hcell⟩ := HB.out.2 (by have := HL.out; omega)
   have cj := hcell j (by have := HL.out; omega)
   obtain ⟨x, hx⟩ : ∃ x, x = l.getD j 0 := ⟨_, rfl⟩
   rw [<- hx] at cj
   have h2 := leN_drop l j (by have := HL.out; omega)
   rw [<- hq.out, <- hx] at h2
   have h3 := leN_lt8 (l.drop j) (fun y hy => HB.out.1 y (List.mem_of_mem_drop hy)) (by rw [List.length_drop]; have := HL.out; have := HN.out; omega)
   rw [h2] at h3
   have hx256 : x < 256 := by
    rw [hx, List.getD_eq_getElem?_getD, List.getElem?_eq_getElem (by have := HL.out; omega)]
    exact HB.out.1 _ (List.getElem_mem _)
   obtain ⟨q1, hq1⟩ : ∃ q1, q1 = q * 256 := ⟨_, rfl⟩
   obtain ⟨q2, hq2⟩ : ∃ q2, q2 = q1 + x := ⟨_, rfl⟩
   have i1 : (q : Int) * 256 = (q1 : Int) := by omega
   have i2 : (q1 : Int) + (x : Int) = (q2 : Int) := by omega
   have w1 : IntKind.u64.wrap (q1 : Int) = (q1 : Int) := by rw [IntKind.wrap_u64]; omega
   have w2 : IntKind.u64.wrap (q2 : Int) = (q2 : Int) := by rw [IntKind.wrap_u64]; omega
   have w3 : IntKind.u64.wrap (x : Int) = (x : Int) := by rw [IntKind.wrap_u64]; omega
   have m1 : (q1 : Int) % 18446744073709551616 = (q1 : Int) := by omega
   have m2 : (q2 : Int) % 18446744073709551616 = (q2 : Int) := by omega
   have m3 : (x : Int) % 18446744073709551616 = (x : Int) := by omega
   have HQ2 : Hid (q2 = leN (l.drop j)) := by show _ = _; rw [h2, hq2, hq1]
   have HJ := Lib.hid hj
   clear hcap hcell h2 h3 hx hq1 hq2 hq hx256 hj
   go_wp2
   go_round
   case rel =>
    refine ⟨q2, rfl, ?_⟩
    rcases j with _ | j
    ·exact .inr ⟨by first | rfl | (congr 1), HQ2.out⟩
    ·exact .inl ⟨j, by have := HJ.out; omega, by congr 1; omega, HQ2.out⟩
   case measure => (simp [intOf] <;> omega)
  ·have HV : Hid (q = leN l) := hq
   clear hq
   go_wp2
   go_ret
   exact ⟨by rw [HV.out]; rfl, rfl⟩
def lowK (V : Nat) : Nat -> List Nat
 | 0 => []
 | k + 1 => lowK V k ++ [V / 256 ^ k % 256]
theorem lowK_eq (V : Nat) : ∀ k, lowK V k = lowB k V
 | 0 => rfl
 | k + 1 => by
  unfold lowK lowB
  rw [List.range_succ, List.map_append, lowK_eq V k]
  simp only [List.map_cons, List.map_nil, lowB, upB]
  rw [show (2 : Nat) ^ (8 * k) = 256 ^ k by rw [Nat.pow_mul]]
theorem rput_c (n V : Nat) (hn : n <= 8) (hV : V < 18446744073709551616) (w : World) :
  Calls Tryz.prog 31 #[.int .i64 (n : Int), .int .u64 (V : Int)] w fun e w' => ∃ v, e = .returned v /\ w'.ownsRow w.heap.size 5 1 v n (bA (lowB n V)).toList /\ Below w.heap.size w w' := by
 have HV := Lib.hid hV
 have HN := Lib.hid hn
 clear hV hn
 go_enter Tryz.func31, Tryz.ntmps31
 go_wp2
 go_loopw [1, 5, 6] (fun vv vb vi wr => ∃ k : Nat, k <= n /\ vi = .int .i64 (k : Int) /\ ∃ q : Nat, vv = .int .u64 (q : Int) /\ Hid (q = V / 256 ^ k) /\ ∃ a c, vb = .slice a k c /\ Hid (wr.ownsRow w.heap.size 5 1 (.slice a k c) k (bA (lowK V k)).toList) /\ Hid (Below w.heap.size w wr)) (fun _ _ vi _ => n - (intOf vi).toNat)
 case atStart => exact ⟨0, by omega, rfl, V, rfl, by simp [Hid], none, 0, rfl, World.ownsRow_nil _ _ _ _, Below.refl _ _⟩
 case round =>
  obtain ⟨k, hk, rfl, q, rfl, hq, a, c, rfl, hown, hbel⟩ := hrel
  by_cases hlt : k < n
  ·have hd : decide ((k : Int) < (n : Int)) = true := by simp; omega
   have dl : (k : Int) < (n : Int) := by omega
   have d8 : decide ((n : Int) <= 8) = true := by have := HN.out; simp; omega
   have e8 : (n : Int) <= 8 := by have := HN.out; omega
   have hqV : q < 18446744073709551616 := by have h1 := HV.out; have h2 := Nat.div_le_self V (256 ^ k); rw [hq.out]; omega
   obtain ⟨x, hx⟩ : ∃ x, x = q % 256 := ⟨_, rfl⟩
   obtain ⟨q2, hq2⟩ : ∃ x, x = q / 256 := ⟨_, rfl⟩
   have e1 : (q : Int) % 256 = (x : Int) := by omega
   have e2 : IntKind.u8.wrap (x : Int) = (x : Int) := by rw [IntKind.wrap_u8]; omega
   have e3 : (q : Int) / 256 = (q2 : Int) := by omega
   have e4 : IntKind.u64.wrap (q2 : Int) = (q2 : Int) := by rw [IntKind.wrap_u64]; omega
   have ek : IntKind.i64.wrap ((k : Int) + 1) = (k : Int) + 1 := by have := HN.out; exact IntWalk.i64_in _ (by omega)
   have HQ2 : Hid (q2 = V / 256 ^ (k + 1)) := by show _ = _; rw [hq2, hq.out, Nat.div_div_eq_div_mul, Nat.pow_succ]
   have HLK : Hid (lowK V (k + 1) = lowK V k ++ [x]) := by show _ = _; rw [hx, hq.out]; rfl
   have HBS : Hid (BytesAt (wr.alloc (.cells #[.int .u8 (x : Int)] 5)) (some ⟨wr.heap.size, 0, none⟩) 1 [x]) := bytesAt_block (l := [x]) (by simp; omega) (heap_new' _ _)
   have HOA : Hid ((wr.alloc (.cells #[.int .u8 (x : Int)] 5)).ownsRow w.heap.size 5 1 (.slice a k c) k (bA (lowK V k)).toList) := World.ownsRow.alloc hown.out _
   have HEA : Hid (Below w.heap.size w (wr.alloc (.cells #[.int .u8 (x : Int)] 5))) := hbel.out.alloc hbel.out.size _
   have HK := Lib.hid hlt
   clear hx hq2 hqV hq hown hk
   go_wp2_with (first
    | (refine wpList_append_bytes (v := .slice a k c) (base := w.heap.size) (n := k) (m := 1) (l := [x]) rfl (.tmp 16) (.tmp 20) rfl rfl HOA.out rfl rfl HBS.out (fun h => by cases h) (by have := HK.out; have := HN.out; omega) HEA.out.size ?_; intro v3 w3 hown3 hgr3; rw [bA_app, <- HLK.out] at hown3; have HO3 := Lib.hid hown3; have HE3 : Hid (Below w.heap.size w w3) := HEA.out.grown hgr3 HEA.out.size (fun q h => (HOA.out.lt q h).1); obtain ⟨a3, c3, hv3⟩ := own_slice hown3; subst hv3; clear hown3 hgr3)
    | fail)
   go_roundw
   case rel => exact ⟨k + 1, by have := HK.out; omega, by go_num, q2, rfl, HQ2.out, a3, c3, rfl, HO3.out, HE3.out⟩
   case measure => simp [intOf]; have := HK.out; omega
  ·have hkn : k = n := by omega
   have hd : decide ((k : Int) < (n : Int)) = false := by simp; omega
   have dl : ¬ (k : Int) < (n : Int) := by omega
   have HO : Hid (wr.ownsRow w.heap.size 5 1 (.slice a k c) n (bA (lowB n V)).toList) := by
    have h := hown.out
    rw [lowK_eq] at h
    subst hkn
    exact h
   clear hown hkn hk
   go_wp2
   go_ret
   exact ⟨_, rfl, HO.out, hbel.out⟩
def padK (l : List Nat) : Nat -> List Nat
 | 0 => []
 | k + 1 => padK l k ++ [l.getD k 0]
theorem padK_len (l : List Nat) : ∀ k, (padK l k).length = k
 | 0 => rfl
 | k + 1 => by unfold padK; rw [List.length_append, padK_len l k]; rfl
theorem padK_get (l : List Nat) : ∀ k j, j < k -> (padK l k)[j]? = some (l.getD j 0)
 | 0, j, h => by omega
 | k + 1, j, h => by
  unfold padK
  by_cases hj : j < k
  ·rw [List.getElem?_append_left (by rw [padK_len]; exact hj)]; exact padK_get l k j hj
  ·have e : j = k := by omega
   subst e
   rw [List.getElem?_append_right (by rw [padK_len]; exact Nat.le_refl _), padK_len, Nat.sub_self]; rfl
theorem padK_eq (l : List Nat) (n : Nat) : padK l n = padB l n := by
 apply List.ext_getElem?
 intro j
 by_cases h : j < n
 ·rw [padK_get l n j h]
  unfold padB
  by_cases hl : j < l.length
  ·rw [List.getElem?_append_left (by rw [List.length_take]; omega), List.getElem?_take_of_lt h, List.getElem?_eq_getElem hl, List.getD_eq_getElem?_getD, List.getElem?_eq_getElem hl]; rfl
  ·rw [List.getElem?_append_right (by rw [List.length_take]; omega), List.getD_eq_getElem?_getD, List.getElem?_eq_none (by omega), List.getElem?_replicate, if_pos (by rw [List.length_take]; omega)]; rfl
 ·rw [List.getElem?_eq_none (by rw [padK_len]; omega), List.getElem?_eq_none (by rw [padB_len]; omega)]
theorem rpad_c (va : Option Addr) (m vc : Nat) (l : List Nat) (hl : l.length = m) (hm : m <= 1000000) (n : Nat) (hn : n <= 65536) (w : World) (hb : BytesAt w va vc l) :
  Calls Tryz.prog 32 #[.slice va m vc, .int .i64 (n : Int)] w fun e w' => ∃ v, e = .returned v /\ w'.ownsRow w.heap.size 5 1 v n (bA (padB l n)).toList /\ Below w.heap.size w w' := by
 have HB := Lib.hid hb
 have HN := Lib.hid hn
 have HL := Lib.hid hl
 have d6 : decide ((n : Int) > 65536) = false := by simp; omega
 have d7 : ¬ (n : Int) > 65536 := by omega
 clear hb hn hl
 go_enter Tryz.func32, Tryz.ntmps32
 go_wp2
 go_loopw [5, 6, 7] (fun vb vi vc wr => ∃ k : Nat, k <= n /\ vi = .int .i64 (k : Int) /\ ∃ a c, vb = .slice a k c /\ Hid (wr.ownsRow w.heap.size 5 1 (.slice a k c) k (bA (padK l k)).toList) /\ Hid (Below w.heap.size w wr)) (fun _ vi _ _ => n - (intOf vi).toNat)
 case atStart => exact ⟨0, by omega, rfl, none, 0, rfl, World.ownsRow_nil _ _ _ _, Below.refl _ _⟩
 case round =>
  obtain ⟨k, hk, rfl, a, c, rfl, hown, hbel⟩ := hrel
  by_cases hlt : k < n
  ·have hd : decide ((k : Int) < (n : Int)) = true := by simp; omega
   have dl : (k : Int) < (n : Int) := by omega
   have dk0 : ¬ (k : Int) < 0 := by omega
   have ek : IntKind.i64.wrap ((k : Int) + 1) = (k : Int) + 1 := by have := HN.out; exact IntWalk.i64_in _ (by omega)
   obtain ⟨x, hx⟩ : ∃ x, x = l.getD k 0 := ⟨_, rfl⟩
   have hx256 : x < 256 := by
    rw [hx, List.getD_eq_getElem?_getD]
    cases h : l[k]? with
    | none => simp
    | some y => exact HB.out.1 _ (List.mem_of_getElem? h)
   have HLK : Hid (padK l (k + 1) = padK l k ++ [x]) := by show _ = _; rw [hx]; rfl
   have HBS : Hid (BytesAt (wr.alloc (.cells #[.int .u8 (x : Int)] 5)) (some ⟨wr.heap.size, 0, none⟩) 1 [x]) := bytesAt_block (l := [x]) (by simp; omega) (heap_new' _ _)
   have HOA : Hid ((wr.alloc (.cells #[.int .u8 (x : Int)] 5)).ownsRow w.heap.size 5 1 (.slice a k c) k (bA (padK l k)).toList) := World.ownsRow.alloc hown.out _
   have HEA : Hid (Below w.heap.size w (wr.alloc (.cells #[.int .u8 (x : Int)] 5))) := hbel.out.alloc hbel.out.size _
   have HK := Lib.hid hlt
   by_cases hkm : k < m
   ·have h2 : decide ((k : Int) < (m : Int)) = true := by simp; omega
    have l2 : (k : Int) < (m : Int) := by omega
    obtain ⟨g, o, rfl, hcap, hg, hcell⟩ := HB.out.2 (by have := HL.out; omega)
    have ck := (hbel.out.cell (p := ⟨g, o + k, none⟩) hg).trans (hcell k (by have := HL.out; omega))
    rw [<- hx] at ck
    clear hx hown hk hx256 hcap hg hcell hkm
    go_wp2_with (first
     | (refine wpList_append_bytes (v := .slice a k c) (base := w.heap.size) (n := k) (m := 1) (l := [x]) rfl (.tmp 23) (.tmp 25) rfl rfl HOA.out rfl rfl HBS.out (fun h => by cases h) (by have := HK.out; have := HN.out; omega) HEA.out.size ?_; intro v3 w3 hown3 hgr3; rw [bA_app, <- HLK.out] at hown3; have HO3 := Lib.hid hown3; have HE3 : Hid (Below w.heap.size w w3) := HEA.out.grown hgr3 HEA.out.size (fun q h => (HOA.out.lt q h).1); obtain ⟨a3, c3, hv3⟩ := own_slice hown3; subst hv3; clear hown3 hgr3)
     | fail)
    go_roundw
    case rel => exact ⟨k + 1, by have := HK.out; omega, by go_num, a3, c3, rfl, HO3.out, HE3.out⟩
    case measure => simp [intOf]; have := HK.out; omega
   ·have h2 : decide ((k : Int) < (m : Int)) = false := by simp; omega
    have l2 : ¬ (k : Int) < (m : Int) := by omega
    have hx0 : x = 0 := by rw [hx, List.getD_eq_getElem?_getD, List.getElem?_eq_none (by have := HL.out; omega)]; rfl
    rw [hx0] at HLK HBS HOA HEA
    clear hx hown hk hx256 hkm hx0
    go_wp2_with (first
     | (refine wpList_append_bytes (v := .slice a k c) (base := w.heap.size) (n := k) (m := 1) (l := [0]) rfl (.tmp 23) (.tmp 25) rfl rfl HOA.out rfl rfl HBS.out (fun h => by cases h) (by have := HK.out; have := HN.out; omega) HEA.out.size ?_; intro v3 w3 hown3 hgr3; rw [bA_app, <- HLK.out] at hown3; have HO3 := Lib.hid hown3; have HE3 : Hid (Below w.heap.size w w3) := HEA.out.grown hgr3 HEA.out.size (fun q h => (HOA.out.lt q h).1); obtain ⟨a3, c3, hv3⟩ := own_slice hown3; subst hv3; clear hown3 hgr3)
     | fail)
    go_roundw
    case rel => exact ⟨k + 1, by have := HK.out; omega, by go_num, a3, c3, rfl, HO3.out, HE3.out⟩
    case measure => simp [intOf]; have := HK.out; omega
  ·have hkn : k = n := by omega
   have hd : decide ((k : Int) < (n : Int)) = false := by simp; omega
   have dl : ¬ (k : Int) < (n : Int) := by omega
   have HO : Hid (wr.ownsRow w.heap.size 5 1 (.slice a k c) n (bA (padB l n)).toList) := by
    have h := hown.out
    rw [padK_eq] at h
    subst hkn
    exact h
   clear hown hkn hk
   go_wp2
   go_ret
   exact ⟨_, rfl, HO.out, hbel.out⟩
theorem noughts_c (va : Option Addr) (n vc : Nat) (l : List Nat) (hl : l.length = n) (hn : n <= 1000000) (w : World) (h : BytesAt w va vc l) :
  Calls Tryz.prog 29 #[.slice va n vc] w fun e w' => e = .returned (.bool (zeroB l)) /\ w = w' := by
 have HB := Lib.hid h
 have HN := Lib.hid hn
 have HL := Lib.hid hl
 clear h hn hl
 go_enter Tryz.func29, Tryz.ntmps29
 go_wp2
 go_loop [7] (fun vi => ∃ k : Nat, k <= n /\ vi = .int .i64 (k : Int) /\ Hid (zeroB (l.take k) = true)) (fun vi => n - (intOf vi).toNat)
 case atStart => exact ⟨0, by omega, rfl, rfl⟩
 case round =>
  obtain ⟨k, hk, rfl, hz⟩ := hrel
  by_cases hlt : k < n
  ·have hd : decide ((k : Int) < (n : Int)) = true := by simp; omega
   have dl : (k : Int) < (n : Int) := by omega
   have dk0 : ¬ (k : Int) < 0 := by omega
   have ek : IntKind.i64.wrap ((k : Int) + 1) = (k : Int) + 1 := by have := HN.out; exact IntWalk.i64_in _ (by omega)
   obtain ⟨g, o, rfl, hcap, hg, hcell⟩ := HB.out.2 (by have := HL.out; omega)
   have ck := hcell k (by have := HL.out; omega)
   obtain ⟨x, hx⟩ : ∃ x, x = l.getD k 0 := ⟨_, rfl⟩
   rw [<- hx] at ck
   have hs := zeroB_snoc l k (by have := HL.out; omega)
   rw [hz.out, Bool.true_and, <- hx] at hs
   have HK := Lib.hid hlt
   by_cases h0 : x = 0
   ·subst h0
    have HS : Hid (zeroB (l.take (k + 1)) = true) := hs
    clear hs hx hcap hg hcell hz hk
    go_wp2
    go_round
    case rel => exact ⟨k + 1, by have := HK.out; omega, by go_num, HS.out⟩
    case measure => simp [intOf]; have := HK.out; omega
   ·have n0 : ¬ (x : Int) = 0 := by omega
    have n1 : ((x : Int) == 0) = false := by simp; omega
    have n2 : ((x : Int) != 0) = true := by simp; omega
    have hz2 : zeroB l = false := by
     cases hz3 : zeroB l with
     | false => rfl
     | true =>
      have h5 : zeroB (l.take (k + 1) ++ l.drop (k + 1)) = true := by rw [List.take_append_drop]; exact hz3
      rw [zeroB_app, hs] at h5
      simp [h0] at h5
    have HZ2 := Lib.hid hz2
    clear hs hx hcap hg hcell hz hk hz2
    go_wp2
    go_ret
    exact ⟨by rw [HZ2.out]; rfl, rfl⟩
  ·have hkn : k = n := by omega
   have hd : decide ((k : Int) < (n : Int)) = false := by simp; omega
   have dl : ¬ (k : Int) < (n : Int) := by omega
   have HZ : Hid (zeroB l = true) := by
    have h5 := hz.out
    rw [List.take_of_length_le (by have := HL.out; omega)] at h5
    exact h5
   clear hz hkn hk
   go_wp2
   go_ret
   exact ⟨by rw [HZ.out]; rfl, rfl⟩
end Go.Proofs.YtpbmjfjnmcpieaaGreat
