/- word.Row.Num, word.Pad; package handle: Place, may, Roots.may, Roots.Bytes, Parse. -/
import Derived.Test.YtpbmjfjnmcpieaaChW
set_option linter.unusedVariables false
set_option linter.unusedSimpArgs false
namespace Go.Proofs.Ytpbmjfjnmcpieaa
open Go Go.RowKit Go.Lib
theorem nextN_len (n : Nat) (l : List Nat) (err : Int) : (nextN n l err).length ≤ n := by
  unfold nextN; split <;> (try split) <;> simp <;> omega
set_option maxRecDepth 100000 in
theorem num_c (rb n : Nat) (h1 : 1 ≤ n) (h8 : n ≤ 8) (N : Int) (hN : N = n) (l : List Nat) (hl : l.length ≤ 1000000) (err : Int) (w : World) (h : RowIs w rb l err) :
    Calls Try.prog 47 #[.pointer (some ⟨rb, 0, none⟩), .int .i64 N] w fun e w' => e = .returned (.int .u64 (leN (nextN n l err) : Int)) ∧ RowIs w' rb (restN n l err) (errN n l err) ∧ Save rb rb w w' := by
  subst hN
  have HX := Lib.hid (next_c rb n (by omega) n rfl l hl err w h)
  have HL := Lib.hid (nextN_len n l err)
  have d1 : decide ((n : Int) < 1) = false := by simp; omega
  have d2 : decide ((n : Int) > 8) = false := by simp; omega
  have HN := Lib.hid h8
  clear h hl h1 h8
  go_enter Try.func47, Try.ntmps47
  go_wp2_with fail
  refine HX.out.mono ?_
  rintro e w1 ⟨⟨v1, rfl, hv1⟩, hr1, hs1⟩
  have HR1 := Lib.hid hr1
  have HS1 := Lib.hid hs1
  obtain ⟨a1, c1, rfl, hb1, _⟩ := id hv1
  have HC := Lib.hid (get_c a1 _ c1 _ rfl (by have := HL.out; have := HN.out; omega) w1 hb1)
  clear hr1 hs1 hv1 hb1
  go_wp2_with fail
  refine HC.out.mono ?_
  rintro e w2 ⟨rfl, rfl⟩
  go_wp2
  go_ret
  exact ⟨rfl, HR1.out, HS1.out⟩
theorem bA_toList_len (l : List Nat) : (bA l).toList.length = l.length := by simp [bA]
/-- copy of bytes into a row that is known whole -/
theorem run_copy_bytes {w : World} {g o dl dc : Nat} {cur : List Nat} {t : TypeId} (hg : w.heap[g]? = some (.cells (bA cur) t (0, 0))) (hfit : o + dl ≤ cur.length) {va : Option Addr} {m vc : Nat} {l : List Nat} (hl : l.length = m) (hb : BytesAt w va vc l) (ty : TypeId) :
    ∃ v w2, (Builtin.copy_ #[34, 34] ty #[.slice (some ⟨g, o, none⟩) dl dc, .slice va m vc]).run Try.prog w = .ok v w2 ∧ w2.heap[g]? = some (.cells (bA (splice cur o (l.take dl))) t (0, 0)) ∧ Save g g w w2 := by
  have hsz : (Try.prog.info? 5).map (·.size) = some 1 := by kernel_rfl
  have hcl : (bA (l.take dl)).toList.length = Nat.min m dl := by rw [bA_toList_len, List.length_take, hl]; exact Nat.min_comm _ _
  by_cases h0 : Nat.min m dl = 0
  · refine ⟨_, w, run_copy_none (P := Try.prog) w _ _ ty 5 _ va dl dc m vc Try.underlying34 hsz h0, ?_, Save.refl _ _ _⟩
    have : l.take dl = [] := by apply List.eq_nil_of_length_eq_zero; rw [← bA_toList_len, hcl, h0]
    rw [this]
    simpa [splice] using hg
  · have h0' : 0 < min m dl := Nat.pos_of_ne_zero h0
    obtain ⟨g2, o2, rfl, h2, h3, h4⟩ := hb.2 (by rw [hl]; omega)
    have hr := run_copy_row (P := Try.prog) w 34 34 ty 5 g o dl dc ⟨g2, o2, none⟩ m vc (bA cur) t (bA (l.take dl)).toList Try.underlying34 hsz hg hcl
      (fun j v hj => by
        have hjl := (List.getElem?_eq_some_iff.1 hj).1
        rw [hcl] at hjl
        have hjl' : j < min m dl := hjl
        rw [Array.getElem?_toList, bA_get _ j (by rw [List.length_take, hl]; omega)] at hj
        rw [add_plain, h4 j (by rw [hl]; omega), ← hj, List.getD_eq_getElem?_getD, List.getD_eq_getElem?_getD, List.getElem?_take_of_lt (by omega)])
      (by rw [hcl, bA_size]; have : Nat.min m dl ≤ dl := Nat.min_le_right _ _; omega)
      (by have := bA_one (l.take dl); rw [← Array.all_toList, List.all_eq_true] at this; exact this)
    refine ⟨_, _, hr, ?_, ⟨⟨rfl, rfl, rfl, by simp [World.setRow], fun k hk => setRow_other w g k _ (by omega)⟩, fun k _ hk => setRow_other w g k _ hk⟩⟩
    have he : ((bA cur).toList.take o ++ (bA (l.take dl)).toList ++ (bA cur).toList.drop (o + (bA (l.take dl)).toList.length)).toArray = bA (splice cur o (l.take dl)) := by
      unfold splice bA
      simp
    rw [setRow_heap w g _ _ t _ hg, he]
theorem splice_pad (l : List Nat) (n : Nat) : splice (List.replicate n 0) 0 (l.take n) = padB l n := by
  unfold splice padB
  simp
  by_cases h : l.length ≤ n
  · rw [Nat.min_eq_right h]
  · rw [Nat.min_eq_left (by omega), show n - n = 0 by omega, show n - l.length = 0 by omega]
theorem padB_len (l : List Nat) (n : Nat) : (padB l n).length = n := by unfold padB; simp; omega
theorem padB_lt (l : List Nat) (n : Nat) (h : ∀ x ∈ l, x < 256) : ∀ x ∈ padB l n, x < 256 := by
  unfold padB
  refine app_lt (fun x hx => h x (List.mem_of_mem_take hx)) (fun x hx => ?_)
  have := (List.mem_replicate.1 hx).2; omega
set_option maxRecDepth 100000 in
set_option maxHeartbeats 1000000 in
theorem pad_c (va : Option Addr) (m vc : Nat) (l : List Nat) (hl : l.length = m) (hl1 : m ≤ 1000000) (n : Nat) (h1 : 1 ≤ n) (hn : n ≤ 65536) (N : Int) (hN : N = n) (w : World) (hb : BytesAt w va vc l) :
    Calls Try.prog 67 #[.slice va m vc, .int .i64 N] w fun e w' => ∃ b, e = .returned (.slice (some ⟨b, 0, none⟩) n n) ∧ w.heap.size ≤ b ∧ b < w'.heap.size ∧ w'.heap[b]? = some (.cells (bA (padB l n)) 5 (0, 0)) ∧ Below w.heap.size w w' := by
  subst hN
  have hmk := mk_bytes n (by omega)
  have d1 : decide ((n : Int) < 1) = false := by simp; omega
  have d2 : decide ((n : Int) > 65536) = false := by simp; omega
  have hbel := below_box w (.cells (bA (List.replicate n 0)) 5)
  obtain ⟨v2, w2, hcp, hg2, hs2⟩ := run_copy_bytes (o := 0) (dl := n) (dc := n) (cur := List.replicate n 0) (heap_new' w (.cells (bA (List.replicate n 0)) 5)) (by simp) hl (hb.up hbel (Nat.le_refl _)) 3
  rw [splice_pad] at hg2
  have HG2 := Lib.hid hg2
  have HB2 : Hid (Below w.heap.size w w2) := hbel.trans hs2.1
  clear hb hl hbel hg2 hs2 hl1
  go_enter Try.func67, Try.ntmps67
  go_wp2
  go_ret
  exact ⟨_, rfl, Nat.le_refl _, lt_of_block HG2.out, HG2.out, HB2.out⟩
/-- a place in memory -/
def plA (p s q : Nat) : Array Value := #[.int .i64 (p : Int), .int .i64 (s : Int), .int .u64 (q : Int)]
def placeB (p s q : Nat) : Bool := decide (p < 64) && decide (s < 16) && decide (0 < q) && decide (q ≤ 281474976710655)
set_option maxRecDepth 100000 in
set_option maxHeartbeats 2000000 in
theorem placemay_c (p s q : Nat) (w : World) :
    Calls Try.prog 63 #[.agg (plA p s q)] w fun e w' => e = .returned (.bool (placeB p s q)) ∧ Below w.heap.size w w' := by
  have hb : ∀ o : Obj, Below w.heap.size w (w.alloc o) := fun o => below_box w o
  have HB := Lib.hid hb
  clear hb
  have p0 : decide ((p : Int) ≥ 0) = true := by simp
  have s0 : decide ((s : Int) ≥ 0) = true := by simp
  obtain ⟨r, hr⟩ : ∃ r, r = placeB p s q := ⟨_, rfl⟩
  rw [← hr]
  unfold placeB at hr
  show Calls _ _ #[.agg #[.int .i64 (p : Int), .int .i64 (s : Int), .int .u64 (q : Int)]] w _
  by_cases h1 : p < 64
  · have d1 : decide ((p : Int) < 64) = true := by simp; omega
    have i1 : (p : Int) < 64 := by omega
    by_cases h2 : s < 16
    · have d2 : decide ((s : Int) < 16) = true := by simp; omega
      have i2 : (s : Int) < 16 := by omega
      by_cases h3 : 0 < q
      · have d3 : decide ((q : Int) > 0) = true := by simp; omega
        have i3 : 0 < (q : Int) := by omega
        by_cases h4 : q ≤ 281474976710655
        · have d4 : decide ((q : Int) ≤ 281474976710655) = true := by simp; omega
          have i4 : (q : Int) ≤ 281474976710655 := by omega
          have hr2 : r = true := by rw [hr]; simp; omega
          clear hr h1 h2 h3 h4
          subst hr2
          go_enter Try.func63, Try.ntmps63
          go_wp2
          go_ret
          exact ⟨rfl, HB.out _⟩
        · have d4 : decide ((q : Int) ≤ 281474976710655) = false := by simp; omega
          have i4 : ¬ (q : Int) ≤ 281474976710655 := by omega
          have hr2 : r = false := by rw [hr]; simp; omega
          clear hr h1 h2 h3 h4
          subst hr2
          go_enter Try.func63, Try.ntmps63
          go_wp2
          go_ret
          exact ⟨rfl, HB.out _⟩
      · have d3 : decide ((q : Int) > 0) = false := by simp; omega
        have i3 : ¬ 0 < (q : Int) := by omega
        have hr2 : r = false := by rw [hr]; simp; omega
        clear hr h1 h2 h3
        subst hr2
        go_enter Try.func63, Try.ntmps63
        go_wp2
        go_ret
        exact ⟨rfl, HB.out _⟩
    · have d2 : decide ((s : Int) < 16) = false := by simp; omega
      have i2 : ¬ (s : Int) < 16 := by omega
      have hr2 : r = false := by rw [hr]; simp; omega
      clear hr h1 h2
      subst hr2
      go_enter Try.func63, Try.ntmps63
      go_wp2
      go_ret
      exact ⟨rfl, HB.out _⟩
  · have d1 : decide ((p : Int) < 64) = false := by simp; omega
    have i1 : ¬ (p : Int) < 64 := by omega
    have hr2 : r = false := by rw [hr]; simp; omega
    clear hr h1
    subst hr2
    go_enter Try.func63, Try.ntmps63
    go_wp2
    go_ret
    exact ⟨rfl, HB.out _⟩
def hPage (h : Nat) : Nat := h / 72057594037927936
def hSlot (h : Nat) : Nat := h / 281474976710656 % 256
def hSer (h : Nat) : Nat := h % 281474976710656
def hOK (h : Nat) : Bool := placeB (hPage h) (hSlot h) (hSer h)
/-- a handle's place, as answered -/
def hRes (r : Bool) (p s q : Nat) : Value := if r then .tuple #[.agg (plA p s q), .bool true] else .tuple #[.agg (plA 0 0 0), .bool false]
theorem place3 : (Try.prog.info? 88).map (·.size) = some 3 := by kernel_rfl
theorem plA_one (p s q : Nat) : (plA p s q).all (·.oneCell') = true := by simp [plA, Value.oneCell']
set_option maxRecDepth 100000 in
set_option maxHeartbeats 2000000 in
theorem hplace_c (h : Nat) (hh : h < 18446744073709551616) (w : World) :
    Calls Try.prog 41 #[.int .u64 (h : Int)] w fun e w' => e = .returned (hRes (hOK h) (hPage h) (hSlot h) (hSer h)) ∧ Below w.heap.size w w' := by
  have e1 : (h : Int) / 72057594037927936 = (hPage h : Int) := by unfold hPage; omega
  have e2 : bits BinOp.and IntKind.u64 ((h : Int) / 281474976710656) 255 = (hSlot h : Int) := by
    have := u64_and_nat (h / 281474976710656) 255 (by omega) (by omega)
    rw [show (h : Int) / 281474976710656 = ((h / 281474976710656 : Nat) : Int) by omega]
    rw [show ((255 : Nat) : Int) = (255 : Int) from rfl] at this
    rw [this]
    unfold hSlot
    rw [show (255 : Nat) = 2 ^ 8 - 1 from rfl, Nat.and_two_pow_sub_one_eq_mod]
  have e3 : bits BinOp.and IntKind.u64 (h : Int) 281474976710655 = (hSer h : Int) := by
    have := u64_and_nat h 281474976710655 (by omega) (by omega)
    rw [show ((281474976710655 : Nat) : Int) = (281474976710655 : Int) from rfl] at this
    rw [this]
    unfold hSer
    rw [show (281474976710655 : Nat) = 2 ^ 48 - 1 from rfl, Nat.and_two_pow_sub_one_eq_mod]
  obtain ⟨p, hp⟩ : ∃ p, p = hPage h := ⟨_, rfl⟩
  obtain ⟨s, hs⟩ : ∃ s, s = hSlot h := ⟨_, rfl⟩
  obtain ⟨q, hq⟩ : ∃ q, q = hSer h := ⟨_, rfl⟩
  have HOK : Hid (hOK h = placeB p s q) := by show _ = _; rw [hp, hs, hq]; rfl
  rw [← hp] at e1
  rw [← hs] at e2
  rw [← hq] at e3
  rw [← hp, ← hs, ← hq, HOK.out]
  have ep : wrap64 (p : Int) = (p : Int) := IntWalk.wrap64_in _ (by rw [hp]; unfold hPage; omega)
  have es : wrap64 (s : Int) = (s : Int) := IntWalk.wrap64_in _ (by rw [hs]; unfold hSlot; omega)
  clear hp hs hq HOK hh
  have HP := Lib.hid (placemay_c p s q)
  obtain ⟨r, hr⟩ : ∃ r, r = placeB p s q := ⟨_, rfl⟩
  rw [← hr] at HP ⊢
  clear hr
  go_enter Try.func41, Try.ntmps41
  go_wp2_with fail
  have hA : Hid (((w.alloc (.cells #[.int .i64 0, .int .i64 0, .int .u64 0] 88)).alloc (.cells #[.int .i64 (p : Int), .int .i64 (s : Int), .int .u64 (q : Int)] 88)).heap[w.heap.size]? = some (.cells (plA 0 0 0) 88 (0, 0))) := by
    show _ = _; rw [heap_old' _ _ _ (by simp)]; exact heap_new' _ _
  have hB : Hid (((w.alloc (.cells #[.int .i64 0, .int .i64 0, .int .u64 0] 88)).alloc (.cells #[.int .i64 (p : Int), .int .i64 (s : Int), .int .u64 (q : Int)] 88)).heap[w.heap.size + 1]? = some (.cells (plA p s q) 88 (0, 0))) := by
    show _ = _; rw [show w.heap.size + 1 = (w.alloc (.cells #[.int .i64 0, .int .i64 0, .int .u64 0] 88)).heap.size by simp]; exact heap_new' _ _
  have hW : Hid (Below w.heap.size w ((w.alloc (.cells #[.int .i64 0, .int .i64 0, .int .u64 0] 88)).alloc (.cells #[.int .i64 (p : Int), .int .i64 (s : Int), .int .u64 (q : Int)] 88))) := ((Below.refl _ _).alloc (Nat.le_refl _) _).alloc (by simp) _
  generalize (w.alloc (.cells #[.int .i64 0, .int .i64 0, .int .u64 0] 88)).alloc (.cells #[.int .i64 (p : Int), .int .i64 (s : Int), .int .u64 (q : Int)] 88) = w1 at *
  refine (HP.out w1).mono ?_
  rintro e w2 ⟨rfl, hb2⟩
  have hA2 := Lib.hid ((hb2.block _ (lt_of_block hA.out)).trans hA.out)
  have hB2 := Lib.hid ((hb2.block _ (lt_of_block hB.out)).trans hB.out)
  have hW2 := Lib.hid (hW.out.trans (hb2.mono hW.out.size))
  clear hA hB hW hb2
  cases r with
  | true =>
    go_wp2_with (first
      | (refine wpList_load_row rfl 88 (.tmp 4) rfl (w.heap.size + 1) rfl _ _ _ _ hB2.out Try.underlying88 rfl (by rw [place3]; rfl) ?_)
      | (refine wpList_store_row rfl 88 (.tmp 2) (.tmp 19) rfl w.heap.size (plA p s q) rfl rfl 88 _ hA2.out (by rw [place3]; rfl) rfl (plA_one _ _ _) ?_)
      | fail)
    refine bodyPost_ret (results_row_tmp rfl _ _ w.heap.size _ (plA p s q) (0, 0) _ rfl (setRow_heap _ _ _ _ _ _ hA2.out) Try.underlying88 rfl (by rw [place3]; rfl)) rfl ?_
    exact ⟨rfl, below_setRow hW2.out (Nat.le_refl _) _⟩
  | false =>
    go_wp2_with (first
      | (refine wpList_store_row rfl 88 (.tmp 2) (.tmp 18) rfl w.heap.size (plA 0 0 0) rfl rfl 88 _ hA2.out (by rw [place3]; rfl) rfl (plA_one _ _ _) ?_)
      | fail)
    refine bodyPost_ret (results_row_tmp rfl _ _ w.heap.size _ (plA 0 0 0) (0, 0) _ rfl (setRow_heap _ _ _ _ _ _ hA2.out) Try.underlying88 rfl (by rw [place3]; rfl)) rfl ?_
    exact ⟨rfl, below_setRow hW2.out (Nat.le_refl _) _⟩
end Go.Proofs.Ytpbmjfjnmcpieaa
