/- Contracts of the law's Full, bytes.Clone, bytes.Equal, Sealer.may. Printed by gen_seala.py. -/
import Derived.Test.YtjclofkkpgdjnaaCBack
import Derived.Maps.AppendAt
set_option linter.unusedVariables false
set_option linter.unusedSimpArgs false
namespace Go.Proofs.Ytjclofkkpgdjnaa
open Go Go.RowKit GfM
theorem add_plain (g o j : Nat) : (⟨g, o, none⟩ : Addr).add j = ⟨g, o + j, none⟩ := by
  unfold Addr.add; split
  · next h => subst h; rfl
  · rfl
/-- append(v, bytes...): the bytes may be none, and nil -/
theorem run_append_bytes {w : World} (ty : TypeId) {base n : Nat} {v : Value} {xs : List Value} (hown : w.ownsRow base 5 1 v n xs) {a : Option Addr} {cap m : Nat} {l : List Nat} (hm : l.length = m) (hB : BytesAt w a cap l) (hnil : a = none → cap = 0) (h63 : n + m ≤ 1000000) (hbase : base ≤ w.heap.size) :
    ∃ v' w', (Builtin.append_ #[32, 32] ty #[v, .slice a m cap]).run Try.prog w = .ok v' w' ∧ w'.ownsRow base 5 1 v' (n + m) (xs ++ (bA l).toList) ∧ w.grownBy w' v.ownBlock := by
  obtain ⟨i0, hi, hz0, hz1, hz2⟩ := info_parts u8info
  cases a with
  | none =>
    have hm0 : m = 0 := by
      rcases Nat.eq_zero_or_pos m with h | h
      · exact h
      · obtain ⟨_, _, h1, _⟩ := hB.2 (by omega); cases h1
    have hc := hnil rfl
    subst hm0; subst hc
    have hl : l = [] := List.length_eq_zero_iff.1 hm
    subst hl
    refine ⟨v, w, run_append_owned_none w base 32 ty 5 i0 1 Try.underlying32 hi v n xs hown, ?_, World.grownBy.refl w _⟩
    simpa [bA] using hown
  | some ad =>
    have hnews : ∀ j u, (bA l).toList[j]? = some u → w.cell? (ad.add j) = some u := by
      intro j u hu
      have hj : j < l.length := by
        have := (List.getElem?_eq_some_iff.1 hu).1; simpa [bA] using this
      obtain ⟨g, o, h1, h2, h3, h4⟩ := hB.2 (by omega)
      cases h1
      rw [add_plain, h4 j hj]
      rw [Array.getElem?_toList, bA_get l j hj] at hu
      exact hu
    obtain ⟨v', w', h1, h2, h3, _⟩ := run_append_own_at (P := Try.prog) w base 32 ty 5 i0 _ 1 1 Try.underlying32 hi hz0 hz1 hz2 rfl (by omega) v n xs hown ad m cap (bA l).toList (by simp [bA, hm]) hnews (by simp [bA, Value.oneCell']) (by unfold maxLen; omega) (by omega) hbase
    exact ⟨v', w', h1, h2, h3⟩
theorem wpList_append_bytes {w : World} {ops : Array Oper} {rest : List Oper} {o : Oper} {A : Act} {Q : Exit → Act → World → Prop} (hgd : o.guard = none) (s x : Operand)
    (ho : o.op = .call { callee := .builtin .append, args := #[s, x], argTypes := #[32, 32] }) {base n : Nat} {v : Value} {xs : List Value} (hs : A.eval s = v) (hown : w.ownsRow base 5 1 v n xs)
    {a : Option Addr} {cap m : Nat} {l : List Nat} (hx : A.eval x = .slice a m cap) (hm : l.length = m) (hB : BytesAt w a cap l) (hnil : a = none → cap = 0) (h63 : n + m ≤ 1000000) (hbase : base ≤ w.heap.size)
    (h : ∀ v' w', w'.ownsRow base 5 1 v' (n + m) (xs ++ (bA l).toList) → w.grownBy w' v.ownBlock → wpList Try.prog ops Q rest (A.put o.dst v') w') : wpList Try.prog ops Q (o :: rest) A w :=
  wpList_plain hgd fun _ hK => by
    obtain ⟨v', w', h1, h2, h3⟩ := run_append_bytes o.type hown hm hB hnil h63 hbase
    unfold Oper.wp execOp
    simp only [ho, resolve, invoke, builtin, Sem.run_bind, Sem.run_pure, Result.andThen_ok, List.map_toArray, List.map_cons, List.map_nil, hs, hx, h1]
    exact hK _ _ (h v' w' h2 h3)
/-- 256 bytes that begin with some, and have the last one of these behind -/
def fullL (l : List Nat) : List Nat := l ++ List.replicate (256 - l.length) (l.getD (l.length - 1) 0)
theorem fullL_len (l : List Nat) (h : l.length ≤ 256) : (fullL l).length = 256 := by simp [fullL]; omega
theorem fullL_lt {l : List Nat} (h : ∀ x ∈ l, x < 256) : ∀ x ∈ fullL l, x < 256 := by
  intro x hx
  rcases List.mem_append.1 hx with h1 | h1
  · exact h x h1
  · rw [(List.mem_replicate.1 h1).2]; exact getD_lt h _
def lenV : Value → Nat
  | .slice _ n _ => n
  | _ => 0
theorem rep_next (l : List Nat) (k c : Nat) : (bA (l ++ List.replicate (k + 1) c)).toList = (bA (l ++ List.replicate k c)).toList ++ [.int .u8 (c : Int)] := by
  rw [List.replicate_succ']; simp [bA]
theorem own_none0 {w : World} {base : Nat} (h : base ≤ w.heap.size) : (w.alloc (Obj.cells #[] 5)).ownsRow base 5 1 (.slice (some ⟨w.heap.size, 0, none⟩) 0 0) 0 [] :=
  ⟨rfl, .inr ⟨_, 0, #[], rfl, h, heap_new' _ _, Nat.le_refl _, Nat.zero_le _, rfl, rfl⟩⟩
set_option maxRecDepth 100000 in
set_option maxHeartbeats 4000000 in
theorem full_c (a : Option Addr) (len cap : Nat) (hlc : len ≤ cap) (hcm : cap ≤ 9223372036854775807) (hnil : a = none → cap = 0) (l : List Nat) (hl : l.length = min len 256) (w : World) (hB : BytesAt w a cap l) :
    Calls Try.prog 33 #[.slice a len cap] w fun e w' => ∃ q cp, e = .returned (.slice (some ⟨q, 0, none⟩) 256 cp) ∧ 256 ≤ cp ∧ w.heap.size ≤ q ∧ BytesAt w' (some ⟨q, 0, none⟩) cp (fullL l) ∧ Below w.heap.size w w' := by
  obtain ⟨i0, hi, hz0, hz1, hz2⟩ := info_parts u8info
  have HNIL := Lib.hid hnil
  have HB := Lib.hid hB
  obtain ⟨m, hm⟩ : ∃ m, m = min len 256 := ⟨_, rfl⟩
  rw [← hm] at hl
  have HLL := Lib.hid hl
  have hm256 : m ≤ 256 := by omega
  have HM := Lib.hid hm256
  obtain ⟨c, hc⟩ : ∃ c, c = l.getD (m - 1) 0 := ⟨_, rfl⟩
  have HC := Lib.hid hc
  have HOWN0 : Hid ((w.alloc (Obj.cells #[] 5)).ownsRow w.heap.size 5 1 (.slice (some ⟨w.heap.size, 0, none⟩) 0 0) 0 []) := own_none0 (Nat.le_refl _)
  have HBE0 : Hid (Below w.heap.size w (w.alloc (Obj.cells #[] 5))) := (Below.refl _ _).alloc (Nat.le_refl _) _
  have HB0 : Hid (BytesAt (w.alloc (Obj.cells #[] 5)) a cap l) := hB.up HBE0.out (Nat.le_refl _)
  clear hnil hB hl hc
  by_cases h256 : len > 256
  · have hd : decide ((len : Int) > 256) = true := by simp; omega
    have hs : (256 : Int) ≤ (cap : Int) := by omega
    obtain rfl : m = 256 := by omega
    clear hm hm256
    go_enter Try.func33, Try.ntmps33
    go_wp2_with (first
      | (refine wpList_append_bytes (v := .slice (some ⟨w.heap.size, 0, none⟩) 0 0) (base := w.heap.size) (n := 0) (xs := []) rfl (.tmp 10) (.tmp 11) rfl rfl HOWN0.out rfl HLL.out HB0.out HNIL.out (by omega) (by rw [World.size_alloc]; omega) ?_; intro v1 w1 hown1 hgrow1; have HOWN1 := Lib.hid hown1; have HBEL : Hid (Below w.heap.size w w1) := HBE0.out.grown hgrow1 (by rw [World.size_alloc]; omega) (fun q e => by simp [Value.ownBlock] at e; omega); clear hown1 hgrow1)
      | fail)
    go_loopw [3] (fun vs wr => ∃ k : Nat, 256 + k ≤ 256 ∧ Hid (wr.ownsRow w.heap.size 5 1 vs (256 + k) (bA (l ++ List.replicate k c)).toList) ∧ Hid (Below w.heap.size w wr)) (fun vs _ => 256 - lenV vs)
    case atStart => exact ⟨0, by have := HM.out; omega, by have h := HOWN1.out; simp only [Nat.zero_add, List.nil_append] at h; simpa only [List.replicate_zero, List.append_nil, Nat.add_zero] using Lib.hid h, HBEL.out⟩
    case round =>
      clear HOWN1 HBEL HOWN0 HBE0 HB0
      obtain ⟨k, hk, hown, hbel⟩ := hrel
      have hv : ∃ s sc, u3 = .slice s (256 + k) sc := by
        rcases hown.out.2 with ⟨h, h0⟩ | ⟨g', cap', cur, h, _⟩
        · exact ⟨none, 0, by rw [h, h0]⟩
        · exact ⟨_, cap', h⟩
      obtain ⟨sa, sc, rfl⟩ := hv
      obtain ⟨t, ht⟩ : ∃ t, t = 256 + k := ⟨_, rfl⟩
      have HT := Lib.hid ht
      rw [← ht] at hown hk ⊢
      clear ht
      by_cases hlt : t < 256
      · have hd2 : decide ((t : Int) < 256) = true := by simp; omega
        have hnew : ∀ Z : Array Value, (wr.alloc (.cells Z 5)).heap[wr.heap.size]? = some (.cells Z 5 (0, 0)) := fun Z => heap_new' _ _
        have HNEW := Lib.hid hnew
        have HSZ := Lib.hid hbel.out.size
        have HKT := Lib.hid hlt
        clear hnew hk hlt
        obtain ⟨g0, o0, rfl, hc0, hg0, hcell0⟩ := HB.out.2 (by rw [HLL.out]; omega)
        have cl0 := (hbel.out.cell (p := ⟨g0, o0 + 255, none⟩) hg0).trans (hcell0 255 (by rw [HLL.out]; omega))
        have hc255 : c = l.getD 255 0 := HC.out
        rw [← hc255] at cl0
        clear hcell0 hc0 hg0 hc255
        go_wp2_with (first
          | (refine wpList_append_lies _ rfl (.tmp 25) (.tmp 27) 32 rfl w.heap.size 5 i0 _ 1 1 Try.underlying32 hi hz0 hz1 hz2 rfl (by omega) (.slice sa t sc) t _ rfl (World.ownsRow.alloc hown.out _) ⟨wr.heap.size, 0, none⟩ 1 1 [.int .u8 (c : Int)] rfl rfl (World.news_of_block (HNEW.out _)) (by simp [Value.oneCell']) (by omega) (by unfold maxLen; have := HKT.out; omega) (by have := HKT.out; omega) (by rw [World.size_alloc]; have := HSZ.out; omega) _ rfl ?_; intro g5 cap5 w6 hown6 hgrow hat hlt6)
          | fail)
        go_roundw
        case rel =>
          refine ⟨k + 1, by have := HT.out; have := HKT.out; omega, ?_, ?_⟩
          · rw [rep_next, show 256 + (k + 1) = t + 1 by have := HT.out; omega]; exact hown6
          · exact (hbel.out.alloc hbel.out.size _).grown hgrow (by rw [World.size_alloc]; have := HSZ.out; omega) (fun q e => by have := own_ge hown.out q e; omega)
        case measure => simp [lenV]; have := HKT.out; omega
      · obtain rfl : t = 256 := by omega
        have hd2 : decide (((256 : Nat) : Int) < 256) = false := by simp
        rcases hown.out.2 with ⟨h, h'⟩ | ⟨g', cap', cur, h, e2, e3, e4, e5, e6, e7⟩
        · omega
        · cases h
          have HE2 := Lib.hid e2
          have HE3 := Lib.hid e3
          have HE7 := Lib.hid e7
          have HE4 := Lib.hid e4
          clear e2 e3 e4 e5 e6 e7 hi hz0 hz1 hz2
          go_wp2
          go_ret
          have hfull : l ++ List.replicate k c = fullL l := by
            have h1 := HT.out; have h2 := HLL.out
            unfold fullL; rw [h2, ← HC.out, show 256 - 256 = k by omega]
          refine ⟨g', sc, rfl, HE4.out, HE2.out, ⟨fullL_lt HB.out.1, fun _ => ⟨g', 0, rfl, ?_, lt_of_block HE3.out, fun j hj => ?_⟩⟩, hbel.out⟩
          · rw [fullL_len _ (by have := HLL.out; have := HM.out; omega)]; exact HE4.out
          · rw [Nat.zero_add, cells_at HE3.out j]
            have := congrArg (fun l => l[j]?) HE7.out
            rw [fullL_len _ (by have := HLL.out; have := HM.out; omega)] at hj
            simp only [Nat.mul_one] at this
            rw [hfull] at this
            rw [List.getElem?_take_of_lt (by omega), Array.getElem?_toList, Array.getElem?_toList, bA_get _ j (by rw [fullL_len _ (by have := HLL.out; have := HM.out; omega)]; omega)] at this
            exact this
  · have hd : decide ((len : Int) > 256) = false := by simp; omega
    obtain rfl : m = len := by omega
    clear hm
    go_enter Try.func33, Try.ntmps33
    go_wp2_with (first
      | (refine wpList_append_bytes (v := .slice (some ⟨w.heap.size, 0, none⟩) 0 0) (base := w.heap.size) (n := 0) (xs := []) rfl (.tmp 10) (.tmp 11) rfl rfl HOWN0.out rfl HLL.out HB0.out HNIL.out (by have := HM.out; omega) (by rw [World.size_alloc]; omega) ?_; intro v1 w1 hown1 hgrow1; have HOWN1 := Lib.hid hown1; have HBEL : Hid (Below w.heap.size w w1) := HBE0.out.grown hgrow1 (by rw [World.size_alloc]; omega) (fun q e => by simp [Value.ownBlock] at e; omega); clear hown1 hgrow1)
      | fail)
    go_loopw [3] (fun vs wr => ∃ k : Nat, m + k ≤ 256 ∧ Hid (wr.ownsRow w.heap.size 5 1 vs (m + k) (bA (l ++ List.replicate k c)).toList) ∧ Hid (Below w.heap.size w wr)) (fun vs _ => 256 - lenV vs)
    case atStart => exact ⟨0, by have := HM.out; omega, by have h := HOWN1.out; simp only [Nat.zero_add, List.nil_append] at h; simpa only [List.replicate_zero, List.append_nil, Nat.add_zero] using Lib.hid h, HBEL.out⟩
    case round =>
      clear HOWN1 HBEL HOWN0 HBE0 HB0
      obtain ⟨k, hk, hown, hbel⟩ := hrel
      have hv : ∃ s sc, u3 = .slice s (m + k) sc := by
        rcases hown.out.2 with ⟨h, h0⟩ | ⟨g', cap', cur, h, _⟩
        · exact ⟨none, 0, by rw [h, h0]⟩
        · exact ⟨_, cap', h⟩
      obtain ⟨sa, sc, rfl⟩ := hv
      obtain ⟨t, ht⟩ : ∃ t, t = m + k := ⟨_, rfl⟩
      have HT := Lib.hid ht
      rw [← ht] at hown hk ⊢
      clear ht
      by_cases hlt : t < 256
      · have hd2 : decide ((t : Int) < 256) = true := by simp; omega
        have hnew : ∀ Z : Array Value, (wr.alloc (.cells Z 5)).heap[wr.heap.size]? = some (.cells Z 5 (0, 0)) := fun Z => heap_new' _ _
        have HNEW := Lib.hid hnew
        have HSZ := Lib.hid hbel.out.size
        have HKT := Lib.hid hlt
        clear hnew hk hlt
        by_cases hm0 : 0 < m
        · obtain ⟨g0, o0, rfl, hc0, hg0, hcell0⟩ := HB.out.2 (by rw [HLL.out]; omega)
          have cl0 := (hbel.out.cell (p := ⟨g0, o0 + (m - 1), none⟩) hg0).trans (hcell0 (m - 1) (by rw [HLL.out]; omega))
          rw [← HC.out] at cl0
          obtain ⟨m1, hm1⟩ : ∃ m1, m1 = m - 1 := ⟨_, rfl⟩
          rw [← hm1] at cl0
          have em1 : IntKind.i64.wrap ((m : Int) - 1) = (m1 : Int) := by rw [IntWalk.i64_in _ (by omega)]; omega
          have d6 : (m1 : Int) < (m : Int) := by omega
          have dp : decide ((m : Int) > 0) = true := by simp; omega
          clear hcell0 hc0 hg0 hm1
          go_wp2_with (first
            | (refine wpList_append_lies _ rfl (.tmp 25) (.tmp 27) 32 rfl w.heap.size 5 i0 _ 1 1 Try.underlying32 hi hz0 hz1 hz2 rfl (by omega) (.slice sa t sc) t _ rfl (World.ownsRow.alloc hown.out _) ⟨wr.heap.size, 0, none⟩ 1 1 [.int .u8 (c : Int)] rfl rfl (World.news_of_block (HNEW.out _)) (by simp [Value.oneCell']) (by omega) (by unfold maxLen; have := HKT.out; omega) (by have := HKT.out; omega) (by rw [World.size_alloc]; have := HSZ.out; omega) _ rfl ?_; intro g5 cap5 w6 hown6 hgrow hat hlt6)
            | fail)
          go_roundw
          case rel =>
            refine ⟨k + 1, by have := HT.out; have := HKT.out; omega, ?_, ?_⟩
            · rw [rep_next, show m + (k + 1) = t + 1 by have := HT.out; omega]; exact hown6
            · exact (hbel.out.alloc hbel.out.size _).grown hgrow (by rw [World.size_alloc]; have := HSZ.out; omega) (fun q e => by have := own_ge hown.out q e; omega)
          case measure => simp [lenV]; have := HKT.out; omega
        · have hm00 : m = 0 := by omega
          have HM0 := Lib.hid hm00
          have hc0 : c = 0 := by rw [HC.out, hm00, List.length_eq_zero_iff.1 (HLL.out.trans hm00)]; rfl
          have HC0 := Lib.hid hc0
          have dp : decide ((m : Int) > 0) = false := by simp; omega
          clear hm00 hc0
          go_wp2_with (first
            | (refine wpList_append_lies _ rfl (.tmp 25) (.tmp 27) 32 rfl w.heap.size 5 i0 _ 1 1 Try.underlying32 hi hz0 hz1 hz2 rfl (by omega) (.slice sa t sc) t _ rfl (World.ownsRow.alloc hown.out _) ⟨wr.heap.size, 0, none⟩ 1 1 [.int .u8 0] rfl rfl (World.news_of_block (HNEW.out _)) (by simp [Value.oneCell']) (by omega) (by unfold maxLen; have := HKT.out; omega) (by have := HKT.out; omega) (by rw [World.size_alloc]; have := HSZ.out; omega) _ rfl ?_; intro g5 cap5 w6 hown6 hgrow hat hlt6)
            | fail)
          go_roundw
          case rel =>
            refine ⟨k + 1, by have := HT.out; have := HKT.out; omega, ?_, ?_⟩
            · rw [rep_next, show m + (k + 1) = t + 1 by have := HT.out; omega]; rw [HC0.out] at hown6 ⊢; exact hown6
            · exact (hbel.out.alloc hbel.out.size _).grown hgrow (by rw [World.size_alloc]; have := HSZ.out; omega) (fun q e => by have := own_ge hown.out q e; omega)
          case measure => simp [lenV]; have := HKT.out; omega
      · obtain rfl : t = 256 := by omega
        have hd2 : decide (((256 : Nat) : Int) < 256) = false := by simp
        rcases hown.out.2 with ⟨h, h'⟩ | ⟨g', cap', cur, h, e2, e3, e4, e5, e6, e7⟩
        · omega
        · cases h
          have HE2 := Lib.hid e2
          have HE3 := Lib.hid e3
          have HE7 := Lib.hid e7
          have HE4 := Lib.hid e4
          clear e2 e3 e4 e5 e6 e7 hi hz0 hz1 hz2
          go_wp2
          go_ret
          have hfull : l ++ List.replicate k c = fullL l := by
            have h1 := HT.out; have h2 := HLL.out
            unfold fullL; rw [h2, ← HC.out, show 256 - m = k by omega]
          refine ⟨g', sc, rfl, HE4.out, HE2.out, ⟨fullL_lt HB.out.1, fun _ => ⟨g', 0, rfl, ?_, lt_of_block HE3.out, fun j hj => ?_⟩⟩, hbel.out⟩
          · rw [fullL_len _ (by have := HLL.out; have := HM.out; omega)]; exact HE4.out
          · rw [Nat.zero_add, cells_at HE3.out j]
            have := congrArg (fun l => l[j]?) HE7.out
            rw [fullL_len _ (by have := HLL.out; have := HM.out; omega)] at hj
            simp only [Nat.mul_one] at this
            rw [hfull] at this
            rw [List.getElem?_take_of_lt (by omega), Array.getElem?_toList, Array.getElem?_toList, bA_get _ j (by rw [fullL_len _ (by have := HLL.out; have := HM.out; omega)]; omega)] at this
            exact this
theorem wpList_conv {w : World} {ops : Array Oper} {rest : List Oper} {o : Oper} {A : Act} {Q : Exit → Act → World → Prop} (hgd : o.guard = none) (x : Operand) {s : Option Addr} {cap n : Nat} {l : List Nat} (hl : l.length = n) (h : BytesAt w s cap l) (ho : o.op = .convert 32 9 x)
    (hx : A.eval x = .slice s n cap) (hK : wpList Try.prog ops Q rest (A.put o.dst (strV l)) w) : wpList Try.prog ops Q (o :: rest) A w :=
  wpList_plain hgd fun _ hk => wp_conv x hl h ho hx (hk _ _ hK)
theorem wpList_eqs {w : World} {ops : Array Oper} {rest : List Oper} {o : Oper} {A : Act} {Q : Exit → Act → World → Prop} (hgd : o.guard = none) (x y : Operand) (t : TypeId) (l m : List Nat) (hl : ∀ x ∈ l, x < 256) (hm : ∀ x ∈ m, x < 256) (ho : o.op = .binOp .eql 9 x y t)
    (hx : A.eval x = strV l) (hy : A.eval y = strV m) (hK : wpList Try.prog ops Q rest (A.put o.dst (.bool (decide (l = m)))) w) : wpList Try.prog ops Q (o :: rest) A w :=
  wpList_plain hgd fun _ hk => by
    unfold Oper.wp
    rw [run_eqs l m hl hm A.eval x y t o ho hx hy w]
    exact hk _ _ hK
set_option maxRecDepth 100000 in
theorem clone_c (q o cap n : Nat) (l : List Nat) (e1 : l.length = n) (hn : n ≤ 65536) (w : World) (h1 : BytesAt w (some ⟨q, o, none⟩) cap l) (h0 : 0 < n) :
    Calls Try.prog 25 #[.slice (some ⟨q, o, none⟩) n cap] w fun e w' => ∃ g cp, e = .returned (.slice (some ⟨g, 0, none⟩) n cp) ∧ w.heap.size ≤ g ∧ BytesAt w' (some ⟨g, 0, none⟩) cp l ∧ Below w.heap.size w w' := by
  have HE := Lib.hid e1
  have HOWN0 : Hid ((w.alloc (Obj.cells #[] 5)).ownsRow w.heap.size 5 1 (.slice (some ⟨w.heap.size, 0, none⟩) 0 0) 0 []) := own_none0 (Nat.le_refl _)
  have HBE0 : Hid (Below w.heap.size w (w.alloc (Obj.cells #[] 5))) := (Below.refl _ _).alloc (Nat.le_refl _) _
  have HB0 : Hid (BytesAt (w.alloc (Obj.cells #[] 5)) (some ⟨q, o, none⟩) cap l) := h1.up HBE0.out (Nat.le_refl _)
  have hnn : ∀ w : World, (binOp .eql 32 (.slice (some ⟨q, o, none⟩) n cap) (.slice none 0 0)).run Try.prog w = .ok (.bool false) w := fun w => by first | rfl | kernel_rfl | (simp [binOp, Op.equal]; done)
  clear h1 e1
  go_enter Try.func25, Try.ntmps25
  go_wp2_with (first
    | (refine wpList_append_bytes (v := .slice (some ⟨w.heap.size, 0, none⟩) 0 0) (base := w.heap.size) (n := 0) (xs := []) rfl (.tmp 5) (.tmp 6) rfl rfl HOWN0.out rfl HE.out HB0.out (fun h => by cases h) (by omega) (by rw [World.size_alloc]; omega) ?_; intro v1 w1 hown1 hgrow1; have HOWN1 := Lib.hid hown1; have HBEL : Hid (Below w.heap.size w w1) := HBE0.out.grown hgrow1 (by rw [World.size_alloc]; omega) (fun q e => by simp [Value.ownBlock] at e; omega); clear hown1 hgrow1)
    | fail)
  go_ret
  have hown := HOWN1.out
  rw [Nat.zero_add, List.nil_append] at hown
  rcases hown.2 with ⟨_, h⟩ | ⟨g', cap', cur, h, e2, e3, e4, e5, e6, e7⟩
  · omega
  · subst h
    refine ⟨g', cap', rfl, e2, ⟨HB0.out.1, fun _ => ⟨g', 0, rfl, by have := HE.out; omega, lt_of_block e3, fun j hj => ?_⟩⟩, HBEL.out⟩
    rw [Nat.zero_add, cells_at e3 j]
    have := congrArg (fun l => l[j]?) e7
    have := HE.out
    simp only [Nat.mul_one] at *
    rw [List.getElem?_take_of_lt (by omega), Array.getElem?_toList, Array.getElem?_toList, bA_get _ j hj] at *
    assumption
set_option maxRecDepth 100000 in
theorem may_c (s blk : Nat) (hb : blk < 65536) (a : Option Addr) (cap : Nat) (w : World) :
    Calls Try.prog 24 #[.pointer (some ⟨s, 0, none⟩), .int .i64 (blk : Int), .slice a 256 cap] w fun e w' => e = .returned (.int .i64 0) ∧ w = w' := by
  have h1 : decide ((blk : Int) < 0) = false := by simp
  have h2 : decide ((blk : Int) ≥ 65536) = false := by simp; omega
  have h3 : ¬ (blk : Int) < 0 := by omega
  have h4 : ¬ (65536 : Int) ≤ (blk : Int) := by omega
  go_enter Try.func24, Try.ntmps24
  go_wp2
  go_ret
  exact ⟨rfl, rfl⟩
set_option maxRecDepth 100000 in
theorem equal_c (a1 a2 : Option Addr) (c1 c2 n : Nat) (l1 l2 : List Nat) (e1 : l1.length = n) (e2 : l2.length = n) (w : World) (h1 : BytesAt w a1 c1 l1) (h2 : BytesAt w a2 c2 l2) :
    Calls Try.prog 26 #[.slice a1 n c1, .slice a2 n c2] w fun e w' => e = .returned (.bool (decide (l1 = l2))) ∧ w = w' := by
  have H1 := Lib.hid h1
  have H2 := Lib.hid h2
  have HE := Lib.hid e1
  have HE2 := Lib.hid e2
  have hlt1 := h1.1
  have hlt2 := h2.1
  have HLT := Lib.hid (And.intro hlt1 hlt2)
  clear h1 h2 e1 e2 hlt1 hlt2
  go_enter Try.func26, Try.ntmps26
  go_wp2_with (first
    | (refine wpList_conv rfl (.tmp 5) HE.out H1.out rfl rfl ?_)
    | (refine wpList_conv rfl (.tmp 7) HE2.out H2.out rfl rfl ?_)
    | (refine wpList_eqs rfl (.tmp 6) (.tmp 8) 9 l1 l2 HLT.out.1 HLT.out.2 rfl rfl rfl ?_)
    | fail)
  go_ret
  exact ⟨rfl, rfl⟩
end Go.Proofs.Ytjclofkkpgdjnaa
