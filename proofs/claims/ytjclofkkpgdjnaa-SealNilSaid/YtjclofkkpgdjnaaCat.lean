/- Contracts of slices.Grow at nil and of slices.Concat, for bytes. -/
import Derived.Test.YtjclofkkpgdjnaaCtrA
import Derived.Lib.AppendZerosOnto
import Derived.Lib.Walk
set_option linter.unusedVariables false
namespace Go.Proofs.Ytjclofkkpgdjnaa
open Go Go.RowKit
set_option maxRecDepth 100000 in
set_option maxHeartbeats 2000000 in
theorem grow_c (n : Nat) (h0 : 0 < n) (hn : n ≤ 4294967296) (w : World) :
    Calls Try.prog 103 #[.slice none 0 0, .int .i64 (n : Int)] w fun e w' => ∃ G, e = .returned (.slice (some ⟨w.heap.size, 0, none⟩) 0 G) ∧ w'.ownsRow w.heap.size 5 1 (.slice (some ⟨w.heap.size, 0, none⟩) 0 G) 0 [] ∧ Below w.heap.size w w' := by
  obtain ⟨i0, hi0, hzz⟩ := Option.map_eq_some_iff.1 u8info
  simp only [Prod.mk.injEq] at hzz
  obtain ⟨hz0, hs0, hb0⟩ := hzz
  have hold : (Builtin.firstCells i0.size 0 (.slice none 0 0)).run Try.prog w.drew = .ok #[] w.drew := run_firstCells_none w.drew i0.size 0 0 0
  have hg : (0 : Nat) < 0 + n := by omega
  have hrz : ∀ ty, (Builtin.append_ #[32, 3] ty #[.slice none 0 0, .int .i64 (n : Int)]).run Try.prog w =
      .ok (.slice (some ⟨w.heap.size, 0, none⟩) n (grownCap w n 0 5)) (w.drew.alloc (.cells (#[] ++ Builtin.zeroCells #[.int .u8 0] n ++ Builtin.zeroCells #[.int .u8 0] (grownCap w n 0 5 - n)) 5)) := fun ty => by
    have h := Lib.run_append_grow_zeros w 32 3 ty 5 i0 (.int .u8 0) .i64 .i64 Try.underlying32 Try.underlying3 hi0 hz0 none 0 0 [] hold n h0 (by omega) (by omega) (by omega) (by rw [hb0]; omega)
      (growslice_fits (by omega) (by rw [hb0]; omega))
    rw [Nat.zero_add] at h
    exact h
  have hGn : n ≤ grownCap w n 0 5 := grownCap_ge w _ _ _
  have hGm := grownCap_le_maxLen w n 0 5 (by unfold maxLen; omega)
  generalize grownCap w n 0 5 = G at *
  have hrow : (w.alloc (.cells (Builtin.zeroCells #[.int .u8 0] n ++ Builtin.zeroCells #[.int .u8 0] (G - n)) 5)).drew.ownsRow w.heap.size 5 1 (.slice (some ⟨w.heap.size, 0, none⟩) 0 G) 0 [] :=
    (World.ownsRow_made w (Builtin.zeroCells #[.int .u8 0] n ++ Builtin.zeroCells #[.int .u8 0] (G - n)) G (by omega) hGm (by simp [size_zeroCells]; omega) : _)
  have HROW := Lib.hid hrow
  clear hold hrow hi0 hz0 hs0 hb0
  have hG63 : G ≤ 9223372036854775807 := by unfold maxLen at hGm; omega
  have h4 : ¬ ((n : Int) < 0) := by omega
  go_enter Try.func103, Try.ntmps103
  go_wp2_with (at_builtin; refine Lib.wpList_append_run _ rfl _ _ _ _ rfl _ _ rfl rfl _ _ (hrz _) ?_)
  go_ret
  exact ⟨G, rfl, HROW.out, (Below.refl _ _).drew.alloc (Nat.le_refl _) _⟩
theorem add_zero_off (b j : Nat) : (⟨b, 0, none⟩ : Addr).add j = ⟨b, j, none⟩ := by
  unfold Addr.add; split <;> simp_all
theorem own_base {w : World} {base : Nat} {e : TypeId} {size : Nat} {v : Value} {n : Nat} {xs : List Value} (h : w.ownsRow base e size v n xs) (k : Nat) (hk : v.ownBlock = some k) : base ≤ k := by
  obtain ⟨_, h2⟩ := h
  rcases h2 with ⟨rfl, _⟩ | ⟨g, cap, cur, rfl, hg, _⟩
  · simp [Value.ownBlock] at hk
  · simp [Value.ownBlock] at hk; omega
/-- the total length -/
def totL (segs : List (Nat × List Nat)) : Nat := (segs.map (·.2.length)).sum
def catL (segs : List (Nat × List Nat)) : List Nat := (segs.map (·.2)).flatten
theorem totL_succ (segs : List (Nat × List Nat)) (k : Nat) (h : k < segs.length) : totL (segs.take (k + 1)) = totL (segs.take k) + (segs[k]).2.length := by
  unfold totL; rw [List.take_succ_eq_append_getElem h]; simp only [List.map_append, List.sum_append, List.map_cons, List.map_nil, List.sum_cons, List.sum_nil]; omega
theorem catL_succ (segs : List (Nat × List Nat)) (k : Nat) (h : k < segs.length) : catL (segs.take (k + 1)) = catL (segs.take k) ++ (segs[k]).2 := by
  unfold catL; rw [List.take_succ_eq_append_getElem h]; simp only [List.map_append, List.flatten_append, List.map_cons, List.map_nil, List.flatten_cons, List.flatten_nil, List.append_nil]
theorem totL_le (segs : List (Nat × List Nat)) (k : Nat) : totL (segs.take k) ≤ totL segs := by
  have : totL segs = totL (segs.take k) + totL (segs.drop k) := by
    unfold totL; rw [← List.sum_append, ← List.map_append, List.take_append_drop]
  omega
theorem catL_len (segs : List (Nat × List Nat)) : (catL segs).length = totL segs := by
  unfold catL totL; rw [List.length_flatten, List.map_map]; rfl
/-- the row of the slices -/
def segV (s : Nat × List Nat) : Value := .slice (some ⟨s.1, 0, none⟩) s.2.length s.2.length
def segA (segs : List (Nat × List Nat)) : Array Value := (segs.map segV).toArray
theorem segA_get (segs : List (Nat × List Nat)) (k : Nat) (h : k < segs.length) : (segA segs)[k]? = some (segV segs[k]) := by
  unfold segA; simp [h]
def SegsIn (w : World) (segs : List (Nat × List Nat)) : Prop := ∀ s ∈ segs, w.heap[s.1]? = some (.cells (bA s.2) 5 (0, 0))
set_option maxRecDepth 100000 in
set_option maxHeartbeats 2000000 in
theorem concat_c (segs : List (Nat × List Nat)) (bs : Nat) (w : World) (hbs : w.heap[bs]? = some (.cells (segA segs) 32 (0, 0))) (hsegs : SegsIn w segs)
    (h0 : 0 < totL segs) (ht : totL segs ≤ 4294967296) (hlen : segs.length ≤ 4294967296) :
    Calls Try.prog 79 #[.slice (some ⟨bs, 0, none⟩) segs.length segs.length] w
      fun e w' => ∃ v, e = .returned v ∧ w'.ownsRow w.heap.size 5 1 v (totL segs) ((catL segs).map fun (n : Nat) => .int .u8 (n : Int)) ∧ Below w.heap.size w w' := by
  have HBS := Lib.hid hbs
  have HSG := Lib.hid hsegs
  clear hbs hsegs
  go_enter Try.func79, Try.ntmps79
  go_wp2
  go_loop [3, 11] (fun vs vi => ∃ k n : Nat, k ≤ segs.length ∧ vi = .int .i64 k ∧ vs = .int .i64 n ∧ n ≤ totL segs ∧ Hid (n = totL (segs.take k))) (fun _ vi => segs.length - (intOf vi).toNat)
  case atStart => exact ⟨0, 0, by omega, rfl, rfl, by omega, rfl⟩
  case round =>
    obtain ⟨k, n, hk, rfl, rfl, hn, hnt⟩ := hrel
    by_cases hlt : k < segs.length
    · have c0 := (cells_at HBS.out k).trans (segA_get segs k hlt)
      have hsum := totL_succ segs k hlt
      have hle := totL_le segs (k + 1)
      obtain ⟨m, hm⟩ : ∃ m, m = (segs[k]).2.length := ⟨_, rfl⟩
      have c1 : w.cell? ⟨bs, k, none⟩ = some (.slice (some ⟨(segs[k]).1, 0, none⟩) m m) := by rw [c0, segV, hm]
      have hnm : n + m ≤ totL segs := by have := hnt.out; omega
      have HNM : Hid (n + m = totL (segs.take (k + 1))) := by have := hnt.out; show n + m = totL (segs.take (k + 1)); omega
      obtain ⟨b, hb⟩ : ∃ b, b = (segs[k]).1 := ⟨_, rfl⟩
      rw [← hb] at c1
      clear c0 hsum hle hnt hm hb
      have hneg : ¬ ((n : Int) + (m : Int) < 0) := by omega
      go_wp2
      go_round
      case rel => exact ⟨k + 1, n + m, by omega, by go_num, by go_num, hnm, HNM⟩
      case measure => simp [intOf]; omega
    · obtain rfl : k = segs.length := by omega
      obtain rfl : n = totL segs := by have := hnt.out; rw [List.take_length] at this; exact this
      clear hnt hk hlt
      go_wp2_with (go_at_call 103; (with_reducible refine (grow_c _ h0 ht _).mono ?_); rintro e w1 ⟨G, rfl, hown, hbel⟩)
      have hst : w1.ownsRow w.heap.size 5 1 (.slice (some ⟨w.heap.size, 0, none⟩) 0 G) (totL (segs.take 0)) ((catL (segs.take 0)).map fun (n : Nat) => .int .u8 (n : Int)) := hown
      have HST := Lib.hid hst
      have HBEL := Lib.hid hbel
      clear hown hst hbel
      obtain ⟨i0, hi0, hzz⟩ := Option.map_eq_some_iff.1 u8info
      simp only [Prod.mk.injEq] at hzz
      obtain ⟨hz0, hs0, hb0⟩ := hzz
      have HI := Lib.hid hi0
      have HZ := Lib.hid hz0
      have HSZ := Lib.hid hs0
      have HBY := Lib.hid hb0
      clear hi0 hz0 hs0 hb0
      go_loopw [6, 27] (fun v vi wr => ∃ k : Nat, k ≤ segs.length ∧ vi = .int .i64 k ∧ Hid (wr.ownsRow w.heap.size 5 1 v (totL (segs.take k)) ((catL (segs.take k)).map fun (n : Nat) => .int .u8 (n : Int))) ∧ Hid (Below w.heap.size w wr)) (fun _ vi _ => segs.length - (intOf vi).toNat)
      case atStart => exact ⟨0, by omega, rfl, HST, HBEL⟩
      case round =>
        clear HST HBEL
        obtain ⟨k, hk, rfl, hown, hbel⟩ := hrel
        by_cases hlt : k < segs.length
        · have hbs : bs < w.heap.size := lt_of_block HBS.out
          have hblk := (hbel.out.block bs hbs).trans HBS.out
          have c0 := (cells_at hblk k).trans (segA_get segs k hlt)
          have hsum := totL_succ segs k hlt
          have hcat := catL_succ segs k hlt
          have hle := totL_le segs (k + 1)
          have hseg := HSG.out _ (List.getElem_mem hlt)
          have hsb : (segs[k]).1 < w.heap.size := lt_of_block hseg
          have hsw := (hbel.out.block _ hsb).trans hseg
          generalize hsg : segs[k] = sg at *
          obtain ⟨b, l⟩ := sg
          simp only at hsum hcat hsb hsw
          obtain ⟨m, hm⟩ : ∃ m, m = l.length := ⟨_, rfl⟩
          have c1 : wr.cell? ⟨bs, k, none⟩ = some (.slice (some ⟨b, 0, none⟩) m m) := by rw [c0, segV, hm]
          have hnews : ∀ j u, (l.map fun (n : Nat) => Value.int .u8 (n : Int))[j]? = some u → wr.cell? ((⟨b, 0, none⟩ : Addr).add j) = some u := fun j u hj => by
            have : wr.cell? ⟨b, j, none⟩ = some u := by rw [cells_at hsw j]; unfold bA; simpa using hj
            rw [add_zero_off]; exact this
          have h1c : ∀ u ∈ (l.map fun (n : Nat) => Value.int .u8 (n : Int)), u.oneCell' = true := fun u hu => by
            obtain ⟨n, _, rfl⟩ := List.mem_map.1 hu; rfl
          have HN := Lib.hid hnews
          have H1C := Lib.hid h1c
          have hml : (l.map fun (n : Nat) => Value.int .u8 (n : Int)).length = m * 1 := by simp [hm]
          have HML := Lib.hid hml
          have hbound : totL (segs.take k) + m ≤ 4294967296 := by omega
          have HSUM : Hid (totL (segs.take k) + m = totL (segs.take (k + 1))) := by rw [hsum, hm]; exact rfl
          have HCAT := Lib.hid hcat
          have hwz := Lib.hid hbel.out.size
          clear c0 hsum hcat hle hseg hsw hblk hnews h1c hml hm hsg
          go_wp2_with (at_builtin; refine wpList_append_own _ rfl (.tmp 31) (.tmp 32) 32 rfl w.heap.size 5 i0 (.int .u8 0) 1 1 Try.underlying32 HI.out HZ.out HSZ.out HBY.out rfl (by decide) _ _ _ rfl hown.out ⟨b, 0, none⟩ m m (l.map fun (n : Nat) => Value.int .u8 (n : Int)) rfl HML.out HN.out H1C.out (by unfold maxLen; omega) (by omega) hwz.out ?_)
          intro v' w2 hown' hgrow _
          have R1 : Hid (w2.ownsRow w.heap.size 5 1 v' (totL (segs.take (k + 1))) ((catL (segs.take (k + 1))).map fun (n : Nat) => .int .u8 (n : Int))) := by
            rw [← HSUM.out, HCAT.out, List.map_append]; exact hown'
          have R2 := Lib.hid (hbel.out.grown hgrow hwz.out (own_base hown.out))
          clear hown' hgrow hown hbel HN H1C HML
          go_wp2
          go_roundw
          case rel => exact ⟨k + 1, by omega, by go_num, R1, R2⟩
          case measure => simp [intOf]; omega
        · obtain rfl : k = segs.length := by omega
          have R : Hid (wr.ownsRow w.heap.size 5 1 u6 (totL segs) ((catL segs).map fun (n : Nat) => .int .u8 (n : Int))) := by
            have := hown.out; rw [List.take_length] at this; exact this
          clear hown
          go_wp2
          go_ret
          exact ⟨_, rfl, R.out, hbel.out⟩
end Go.Proofs.Ytjclofkkpgdjnaa
