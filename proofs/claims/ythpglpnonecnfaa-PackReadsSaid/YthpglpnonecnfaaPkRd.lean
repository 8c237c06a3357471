/- The walk of the law PackReads. Printed by gen_pr.py. -/
import Derived.Test.YthpglpnonecnfaaRPkE
import Derived.Test.YthpglpnonecnfaaPkPl
import Derived.Test.YthpglpnonecnfaaPkBit
import Derived.Deep.CutRange
set_option linter.unusedVariables false
set_option linter.unusedSimpArgs false
namespace Go.Proofs.Ythpglpnonecnfaa
open Go Go.RowKit Sha
theorem own_take {w : World} {base g n c m : Nat} {l : List Nat} (h : w.ownsRow base 5 1 (.slice (some ⟨g, 0, none⟩) n c) n (bA l).toList) (hm : m ≤ n) : w.ownsRow base 5 1 (.slice (some ⟨g, 0, none⟩) m c) m (bA (l.take m)).toList := by
  have hln : l.length = n := by have := h.1; simpa [bA] using this
  refine ⟨by simp [bA]; omega, .inr ?_⟩
  rcases h.2 with ⟨h2, _⟩ | ⟨g', c', cur, h2, h3, h4, h5, h6, h7, h8⟩
  · cases h2
  · injection h2 with e1 _ e2
    cases e1
    subst e2
    refine ⟨g, c, cur, rfl, h3, h4, by omega, h6, h7, ?_⟩
    rw [Nat.mul_one] at h8 ⊢
    have : cur.toList.take m = (cur.toList.take n).take m := by rw [List.take_take, Nat.min_eq_left hm]
    rw [this, h8]
    simp [bA, List.map_take]
theorem intsIn {w : World} {a : Option Addr} {len cap : Nat} {zs : List Int} (h : IsRow .i64 w a len cap zs) (i : Nat) (hi : i < len) :
    ∃ g o x, a = some ⟨g, o, none⟩ ∧ g < w.heap.size ∧ w.cell? ⟨g, o + i, none⟩ = some (.int .i64 x) := by
  rcases h with ⟨_, h2, _⟩ | ⟨⟨g, o, sp⟩, rfl, hl, hm, hz, hc, _⟩
  · omega
  · have h0 := hc 0 (by omega)
    have hi2 := hc i (by omega)
    simp only [Addr.add, if_true] at h0
    unfold World.cell? at h0
    split at h0
    · rename_i hh
      cases sp with
      | some x => simp at h0
      | none =>
        refine ⟨g, o, zs.getD i 0, rfl, lt_of_block hh, ?_⟩
        by_cases hz0 : i = 0
        · subst hz0; simpa [Addr.add] using hi2
        · simpa [Addr.add, hz0] using hi2
    · cases h0
theorem rowNil {k : IntKind} {w : World} {a : Option Addr} {len cap : Nat} {zs : List Int} (h : IsRow k w a len cap zs) : a = none → cap = 0 := by
  intro ha
  rcases h with ⟨_, _, h2, _⟩ | ⟨p, hp, _⟩
  · exact h2
  · rw [ha] at hp; cases hp
def errP : Bool → Int
  | true => 0
  | false => 4
def PSpec (b : List Nat) (ok : Bool) (L : List (List Nat)) (R : List Int) : Prop := (ok = true ∧ Pk b L R) ∨ (ok = false ∧ (∀ L R, ¬ Pk b L R) ∧ L = [] ∧ R = List.replicate 16 0)
theorem PSpec.one {b : List Nat} {ok ok' : Bool} {L L' : List (List Nat)} {R R' : List Int} (h : PSpec b ok L R) (h' : PSpec b ok' L' R') : ok = ok' ∧ L = L' ∧ R = R' := by
  rcases h with ⟨rfl, h⟩ | ⟨rfl, h, rfl, rfl⟩ <;> rcases h' with ⟨rfl, h'⟩ | ⟨rfl, h', rfl, rfl⟩
  · exact ⟨rfl, pk_one h h'⟩
  · exact (h' _ _ h).elim
  · exact (h _ _ h').elim
  · exact ⟨rfl, rfl, rfl⟩
theorem PSpec.len {b : List Nat} {ok : Bool} {L : List (List Nat)} {R : List Int} (h : PSpec b ok L R) : R.length = 16 ∧ L.length ≤ 1024 := by
  rcases h with ⟨_, h⟩ | ⟨_, _, rfl, rfl⟩
  · exact ⟨h.1, (may_parts h.2.1).1⟩
  · exact ⟨by simp, by simp⟩
theorem rowsAt_nil (w : World) (a : Option Addr) : RowsAt w a [] := fun i l h => by cases h
theorem parse_res {w : World} {e : Ending} {b : List Nat} (h : ParseRes w e b) : ∃ ok L R n a c, PSpec b ok L R ∧ L.length = n ∧ e = .returned (.tuple #[.agg (packA (.slice a n c) R), .int .i64 (errP ok)]) ∧ RowsAt w a L := by
  unfold ParseRes at h
  cases hp : parseN b with
  | none =>
    rw [hp] at h
    refine ⟨false, [], List.replicate 16 0, 0, none, 0, .inr ⟨rfl, fun L R hk => ?_, rfl, rfl⟩, rfl, h, rowsAt_nil _ _⟩
    have := parse_back L R hk.1 hk.2.1
    rw [← hk.2.2, hp] at this
    cases this
  | some LR =>
    obtain ⟨L, R⟩ := LR
    rw [hp] at h
    obtain ⟨a, c, h1, h2⟩ := h
    exact ⟨true, L, R, L.length, a, c, .inl ⟨rfl, parse_len hp, (parse_bytes hp).2, (parse_bytes hp).1⟩, rfl, h1, h2⟩
theorem rparse_res {w : World} {e : Ending} {b : List Nat} (h : RParse w e b) : ∃ ok L R n a c, PSpec b ok L R ∧ L.length = n ∧ e = .returned (.tuple #[.agg (packA (.slice a n c) R), .bool ok]) ∧ RowsAt w a L := by
  rcases h with ⟨h1, h2⟩ | ⟨L, R, a, c, n, h1, h2, h3, h4⟩
  · exact ⟨false, [], List.replicate 16 0, 0, none, 0, .inr ⟨rfl, h2, rfl, rfl⟩, rfl, h1, rowsAt_nil _ _⟩
  · exact ⟨true, L, R, n, a, c, .inl ⟨rfl, h1⟩, h2, h3, h4⟩
theorem run_eqb (b : Bool) (E : Operand → Value) (x y : Operand) (t : TypeId) (o : Oper) (ho : o.op = .binOp .eql 4 x y t) (hx : E x = .bool b) (hy : E y = .bool b) (w : World) :
    (execOp E o).run Try.prog w = .ok (.value (.bool true)) w := by
  unfold execOp
  simp only [ho, hx, hy]
  cases b <;> go_simp
set_option maxRecDepth 100000 in
set_option maxHeartbeats 16000000 in
theorem walkPackReads (W : World) (a : Option Addr) (n cap : Nat) (L : List (List Nat)) (R : List Int) (hl : L.length = n) (hr : R.length = 16) (hw : ∀ r ∈ R, (Lit.int .i64 r).wf = true) (hrows : RowsAt W a L)
    (a1_ : Option Addr) (len1 cap1 : Nat) (z1 : List Int) (hr1 : IsRow .i64 W a1_ len1 cap1 z1) (a2_ : Option Addr) (len2 cap2 : Nat) (z2 : List Int) (hr2 : IsRow .u8 W a2_ len2 cap2 z2) (again : Bool) (cut : Int) (wcut : (Lit.int .i64 cut).wf = true)
    (a5_ : Option Addr) (len5 cap5 : Nat) (z5 : List Int) (hr5 : IsRow .u8 W a5_ len5 cap5 z5) :
    Calls Try.prog 3 #[.agg (packA (.slice a n cap) R), .slice a1_ len1 cap1, .slice a2_ len2 cap2, .bool again, .int .i64 cut, .slice a5_ len5 cap5] W fun e W' => e = .returned (.bool true) ∧ Below W.heap.size W W' := by
  have HI1 : Hid (∀ i, i < len1 → _) := fun i hi => intsIn hr1 i hi
  have HC1 : Hid (len1 ≤ cap1 ∧ cap1 ≤ 9223372036854775807) := row_cap hr1
  obtain ⟨l2, hl2, hB2⟩ := bytesAt_in hr2 len2
  rw [Nat.min_self] at hl2
  have HL2 := Lib.hid hl2
  have HB2_ := Lib.hid hB2
  have HC2 : Hid (len2 ≤ cap2 ∧ cap2 ≤ 9223372036854775807) := row_cap hr2
  obtain ⟨l5, hl5, hB5⟩ := bytesAt_in hr5 9
  have HL5 := Lib.hid hl5
  have HB5_ := Lib.hid hB5
  have HC5 : Hid (len5 ≤ cap5 ∧ cap5 ≤ 9223372036854775807) := row_cap hr5
  have HNL5 := Lib.hid (rowNil hr5)
  have HCUT : Hid (-9223372036854775808 ≤ cut ∧ cut ≤ 9223372036854775807) := by
    simp [Lit.wf, IntKind.min, IntKind.max, IntKind.signed, IntKind.bits] at wcut
    exact ⟨by omega, by omega⟩
  clear hr1 hr2 hr5 hl2 hB2 hl5 hB5 wcut
  have HB0 : Hid ((W.alloc (.cells (packA (.slice a n cap) R) 25)).heap[W.heap.size]? = some (.cells (packA (.slice a n cap) R) 25 (0, 0))) := heap_new' _ _
  have HE0 : Hid (Below W.heap.size W (W.alloc (.cells (packA (.slice a n cap) R) 25))) := (Below.refl _ _).alloc (Nat.le_refl _) _
  have HPS : Hid (∀ (a : Option Addr) (n c : Nat), (packA (.slice a n c) R).size = 17) := fun a n c => by rw [pack_size, hr]
  have HR := Lib.hid hrows
  have HL := Lib.hid hl
  have H16 := Lib.hid hr
  clear hrows hl hw hr
  go_enter Try.func3, Try.ntmps3
  go_wp2_with (first
    | (refine wpList_load_row rfl 25 (.tmp 6) rfl W.heap.size rfl _ _ _ _ HB0.out Try.underlying25 rfl (by rw [pack25, HPS.out]) ?_)
    | fail)
  generalize W.alloc (.cells (packA (.slice a n cap) R) 25) = w0 at *
  have HLT0 := Lib.hid (lt_of_block HB0.out)
  refine (cut2_c W a n cap L R HL.out H16.out w0 HE0.out HR.out).mono ?_
  rintro e w1 ⟨⟨a1, c1, xs1, rfl, hown1, hrv1⟩, hb1⟩
  have HB1 := Lib.hid ((hb1.block _ (lt_of_block HB0.out)).trans HB0.out)
  have HE1 : Hid (Below W.heap.size W w1) := HE0.out.trans (hb1.mono HE0.out.size)
  have HR1 : Hid (∀ w', (∀ g, g ≠ W.heap.size → w'.heap[g]? = w1.heap[g]?) → Below W.heap.size W w' → RowsAt w' a1 (cutL L)) := fun w' he hb => (rowsAt_of (own_keep hown1.out (fun g h => he g (by have := (hown1.out.lt g h).1; have := HLT0.out; omega))) (hrv1.out.up hb (Nat.le_refl _))).2
  have HCL : Hid ((cutL L).length ≤ 12 ∧ ∀ l ∈ cutL L, l.length ≤ 900) := by
    unfold cutL
    refine ⟨by simp; omega, fun l hl => ?_⟩
    rw [List.mem_map] at hl
    obtain ⟨m, _, rfl⟩ := hl
    simp; omega
  obtain ⟨n1, hn1⟩ : ∃ n1, n1 = (cutL L).length := ⟨_, rfl⟩
  rw [← hn1]
  have HN1 := Lib.hid hn1
  obtain ⟨CL, hCL⟩ : ∃ CL, CL = cutL L := ⟨_, rfl⟩
  rw [← hCL] at HR1 HCL HN1
  clear hown1 hrv1 hb1 hn1 hCL HR HL HE0 HB0
  go_wp2_with (first
    | (refine wpList_store_row rfl 25 (.tmp 6) (.tmp 22) rfl W.heap.size (packA (.slice a1 n1 c1) R) rfl rfl 25 _ HB1.out (by rw [pack25, HPS.out]) (by rw [HPS.out, HPS.out]) (packA_one _ _ _ _) ?_; generalize hW2 : World.setRow _ _ _ = w2; have HB2 : Hid (w2.heap[W.heap.size]? = some (.cells (packA (.slice a1 n1 c1) R) 25 (0, 0))) := (by rw [← hW2]; exact setRow_heap _ _ _ _ _ _ HB1.out); have HE2 : Hid (Below W.heap.size W w2) := (by rw [← hW2]; exact below_setRow HE1.out (Nat.le_refl _) _); have HR2 : Hid (RowsAt w2 a1 CL) := HR1.out w2 (fun g hg => by rw [← hW2]; exact setRow_other _ _ _ _ hg) HE2.out; clear hW2)
    | (refine wpList_load_row rfl 25 (.tmp 6) rfl W.heap.size rfl _ _ _ _ HB2.out Try.underlying25 rfl (by rw [pack25, HPS.out]) ?_)
    | fail)
  refine (rmay_c a1 n1 c1 CL R HN1.out.symm (by have := HCL.out.1; have := HN1.out; omega) H16.out w2 HR2.out).mono ?_
  rintro e w3 ⟨rfl, hb3⟩
  have HE3 : Hid (Below W.heap.size W w3) := HE2.out.trans (hb3.mono HE2.out.size)
  have HP3 : Hid (w3.heap[W.heap.size]? = some (.cells (packA (.slice a1 n1 c1) R) 25 (0, 0))) := (hb3.block _ (lt_of_block HB2.out)).trans HB2.out
  have HR3 : Hid (RowsAt w3 a1 CL) := HR2.out.up hb3 (Nat.le_refl _)
  have HCN : Hid (CL.length = n1 ∧ n1 ≤ 12 ∧ (∀ l ∈ CL, l.length ≤ 900) ∧ R.length = 16) := ⟨HN1.out.symm, by have := HCL.out.1; have := HN1.out; omega, HCL.out.2, H16.out⟩
  clear hb3 HB2 HR2 HE2 HB1 HR1 HE1 HCL HN1 H16 HLT0
  obtain ⟨mp, hmp⟩ : ∃ mp, mp = mayP CL R := ⟨_, rfl⟩
  rw [← hmp]
  have HMP := Lib.hid hmp
  clear hmp
  go_upto_if 25 with fail
  go_cut [25] from 26 to 26 (fun s25 wx => ∃ a2 c2 CL2 R2 n2, Hid (wx.heap[W.heap.size]? = some (.cells (packA (.slice a2 n2 c2) R2) 25 (0, 0))) ∧ Hid (RowsAt wx a2 CL2) ∧ Hid (CL2.length = n2 ∧ n2 ≤ 12 ∧ (∀ l ∈ CL2, l.length ≤ 900) ∧ R2.length = 16 ∧ mayP CL2 R2 = true) ∧ Hid (Below W.heap.size W wx))
  case first =>
    cases mp with
    | true =>
      go_wp2_with fail
      go_meet
      exact ⟨a1, c1, CL, R, n1, HP3.out, HR3.out, ⟨HCN.out.1, HCN.out.2.1, HCN.out.2.2.1, HCN.out.2.2.2, HMP.out.symm⟩, HE3.out⟩
    | false =>
      have HZ : Hid ((w3.setRow W.heap.size #[.slice none 0 0, .int .i64 0, .int .i64 0, .int .i64 0, .int .i64 0, .int .i64 0, .int .i64 0, .int .i64 0, .int .i64 0, .int .i64 0, .int .i64 0, .int .i64 0, .int .i64 0, .int .i64 0, .int .i64 0, .int .i64 0, .int .i64 0]).heap[W.heap.size]? = some (.cells #[.slice none 0 0, .int .i64 0, .int .i64 0, .int .i64 0, .int .i64 0, .int .i64 0, .int .i64 0, .int .i64 0, .int .i64 0, .int .i64 0, .int .i64 0, .int .i64 0, .int .i64 0, .int .i64 0, .int .i64 0, .int .i64 0, .int .i64 0] 25 (0, 0))) := setRow_heap _ _ _ _ _ _ HP3.out
      go_wp2_with (first
        | (refine wpList_store_row rfl 25 (.tmp 6) (.tmp 26) rfl W.heap.size #[.slice none 0 0, .int .i64 0, .int .i64 0, .int .i64 0, .int .i64 0, .int .i64 0, .int .i64 0, .int .i64 0, .int .i64 0, .int .i64 0, .int .i64 0, .int .i64 0, .int .i64 0, .int .i64 0, .int .i64 0, .int .i64 0, .int .i64 0] rfl rfl 25 _ HP3.out (by rw [pack25]; rfl) (by rw [HPS.out]; rfl) zp_one ?_)
        | fail)
      go_meet
      exact ⟨none, 0, [], List.replicate 16 0, 0, HZ.out, rowsAt_nil _ _, ⟨rfl, by omega, (fun l h => by cases h), by simp, by decide⟩, below_setRow HE3.out (Nat.le_refl _) _⟩
  case rest =>
    clear HP3 HR3 HCN HE3 HMP HPS
    obtain ⟨a2, c2, CL2, R2, n2, HP4, HR4, HC4, HE4⟩ := hcut
    generalize wc = wA at *
    have HPS : Hid ((packA (.slice a2 n2 c2) R2).size = 17) := by show _ = _; rw [pack_size, HC4.out.2.2.2.1]
    obtain ⟨D0, hD0⟩ : ∃ D, D = packBody CL2 R2 := ⟨_, rfl⟩
    have HD0B : Hid (∀ x ∈ D0, x < 256) := by rw [hD0]; exact body_lt (rowsAt_lt HR4.out)
    have HD0L : Hid (38 ≤ D0.length ∧ D0.length ≤ 20000) := by
      have h1 := rowsB_le CL2 900 HC4.out.2.2.1
      have h2 := nums_len R2
      have h3 : (packBody CL2 R2).length = 6 + (numsB R2).length + (rowsB CL2).length := by unfold packBody headB; simp [lowB_len]; omega
      have h4 := HC4.out
      have h6 : CL2.length * 902 ≤ 12 * 902 := Nat.mul_le_mul_right _ (by omega)
      rw [hD0]
      exact ⟨by omega, by omega⟩
    have HBODY : Hid (∀ w', Below wA.heap.size wA w' → Calls Try.prog 8 #[.agg (packA (.slice a2 n2 c2) R2)] w' fun e w'' => ∃ v, e = .returned v ∧ w''.ownsRow w'.heap.size 5 1 v D0.length (bA D0).toList ∧ Below w'.heap.size w' w'') := fun w' h => by
      have h3 := HD0L.out
      rw [hD0] at h3 ⊢
      exact rbody_c a2 n2 c2 CL2 R2 HC4.out.1 (by have := HC4.out.2.1; omega) HC4.out.2.2.2.1 (may_parts HC4.out.2.2.2.2).2.2 (by omega) w' (HR4.out.up h (Nat.le_refl _))
    clear hD0 HR4
    obtain ⟨N, hN⟩ : ∃ N, N = D0.length := ⟨_, rfl⟩
    have HNN : Hid (D0.length = N ∧ 38 ≤ N ∧ N ≤ 20000) := ⟨hN.symm, by have := HD0L.out; omega, by have := HD0L.out; omega⟩
    rw [← hN] at HBODY
    clear hN HD0L
    go_wp2_with (first
      | (refine wpList_load_row rfl 25 (.tmp 6) rfl W.heap.size rfl _ _ _ _ HP4.out Try.underlying25 rfl (by rw [pack25, HPS.out]) ?_)
      | fail)
    refine (HBODY.out wA (Below.refl _ _)).mono ?_
    rintro e w5 ⟨v5, rfl, hown5, hb5⟩
    obtain ⟨g, c, hv5, hg5, hlt5⟩ := own_some hown5 (by have := HNN.out; omega)
    subst hv5
    have HO5 := Lib.hid hown5
    have HE5 : Hid (Below W.heap.size W w5) := HE4.out.trans (hb5.mono HE4.out.size)
    have HG : Hid (W.heap.size ≤ wA.heap.size ∧ wA.heap.size ≤ g) := ⟨HE4.out.size, hg5⟩
    have HSUM : Hid (∀ (D : List Nat) (w' : World), (∀ x ∈ D, x < 256) → w'.ownsRow wA.heap.size 5 1 (.slice (some ⟨g, 0, none⟩) N c) N (bA D).toList → Calls Try.prog 9 #[.slice (some ⟨g, 0, none⟩) N c] w' fun e w'' => (∃ S : List Nat, S.length = 32 ∧ (∀ x ∈ S, x < 256) ∧ e = .returned (.agg (bA S))) ∧ Below w'.heap.size w' w'') := fun D w' hD hO => by
      obtain ⟨aa, cc, hvv, hbb, h3, h4, h5, h6, _⟩ := own_bytes hD hO
      injection hvv with e1 _ e2
      cases e1
      cases e2
      refine (rsum_c (some ⟨g, 0, none⟩) c N D h3 (by have := HNN.out; omega) w' hbb (fun h => by cases h)).mono ?_
      rintro e w'' ⟨rfl, hb⟩
      exact ⟨⟨_, sum_len D, sum_lt D, rfl⟩, hb⟩
    have HGLT := Lib.hid hlt5
    clear hown5 hb5 hg5 hlt5 HBODY HP4 HPS
    go_wp2_with fail
    refine (HSUM.out D0 w5 HD0B.out HO5.out).mono ?_
    rintro e w6 ⟨⟨S0, hS0l, hS0b, rfl⟩, hb6⟩
    have HS0 : Hid (S0.length = 32 ∧ ∀ x ∈ S0, x < 256) := ⟨hS0l, hS0b⟩
    have HO6 := Lib.hid (own_up HO5.out hb6)
    have HE6 : Hid (Below W.heap.size W w6) := HE5.out.trans (hb6.mono HE5.out.size)
    have HG6 : Hid (g < w6.heap.size) := Nat.lt_of_lt_of_le HGLT.out hb6.size
    have HZ7 : Hid ((w6.alloc (.cells #[.int .u8 0, .int .u8 0, .int .u8 0, .int .u8 0, .int .u8 0, .int .u8 0, .int .u8 0, .int .u8 0, .int .u8 0, .int .u8 0, .int .u8 0, .int .u8 0, .int .u8 0, .int .u8 0, .int .u8 0, .int .u8 0, .int .u8 0, .int .u8 0, .int .u8 0, .int .u8 0, .int .u8 0, .int .u8 0, .int .u8 0, .int .u8 0, .int .u8 0, .int .u8 0, .int .u8 0, .int .u8 0, .int .u8 0, .int .u8 0, .int .u8 0, .int .u8 0] 31)).heap[w6.heap.size]? = some (.cells #[.int .u8 0, .int .u8 0, .int .u8 0, .int .u8 0, .int .u8 0, .int .u8 0, .int .u8 0, .int .u8 0, .int .u8 0, .int .u8 0, .int .u8 0, .int .u8 0, .int .u8 0, .int .u8 0, .int .u8 0, .int .u8 0, .int .u8 0, .int .u8 0, .int .u8 0, .int .u8 0, .int .u8 0, .int .u8 0, .int .u8 0, .int .u8 0, .int .u8 0, .int .u8 0, .int .u8 0, .int .u8 0, .int .u8 0, .int .u8 0, .int .u8 0, .int .u8 0] 31 (0, 0))) := heap_new' _ _
    clear hS0l hS0b hb6 HE5 HO5 HGLT
    go_wp2_with (first
      | (refine wpList_store_row rfl 31 (.tmp 14) (.tmp 30) rfl w6.heap.size (bA S0) rfl rfl 31 _ HZ7.out (by rw [info31, bA_size, HS0.out.1]) (by rw [bA_size, HS0.out.1]; rfl) (bA_one _) ?_; generalize hW7 : World.setRow _ _ _ = w7; have HS7 : Hid (w7.heap[w6.heap.size]? = some (.cells (bA S0) 31 (0, 0))) := (by rw [← hW7]; exact setRow_heap _ _ _ _ _ _ HZ7.out); have hb7 : Below w6.heap.size w6 w7 := (by rw [← hW7]; exact below_setRow ((Below.refl _ _).alloc (Nat.le_refl _) _) (Nat.le_refl _) _); have HO7 := Lib.hid (own_up HO6.out hb7); have HE7 : Hid (Below W.heap.size W w7) := HE6.out.trans (hb7.mono HE6.out.size); clear hb7 hW7)
      | fail)
    obtain ⟨q, hq⟩ : ∃ q, q = w6.heap.size := ⟨_, rfl⟩
    rw [← hq] at HS7 HG6 ⊢
    have HQ : Hid (wA.heap.size ≤ q ∧ g < q) := ⟨by have := HG.out; have := HG6.out; omega, HG6.out⟩
    clear hq HO6 HE6 HG6 HZ7
    go_loopw [33] (fun vi wr => ∃ k : Nat, k ≤ len1 ∧ vi = .int .i64 (k : Int) ∧ ∃ D S, Hid (∀ x ∈ D, x < 256) ∧ Hid (wr.ownsRow wA.heap.size 5 1 (.slice (some ⟨g, 0, none⟩) N c) N (bA D).toList) ∧ Hid (S.length = 32 ∧ ∀ x ∈ S, x < 256) ∧ Hid (wr.heap[q]? = some (.cells (bA S) 31 (0, 0))) ∧ Hid (Below W.heap.size W wr)) (fun vi _ => len1 - (intOf vi).toNat)
    case atStart => exact ⟨0, by omega, rfl, D0, S0, HD0B.out, HO7.out, HS0.out, HS7.out, HE7.out⟩
    case round =>
      clear HO7 HS7 HE7 HS0 HD0B
      obtain ⟨k, hk, rfl, D, S, hD, hO, hSS, hS, hE⟩ := hrel
      by_cases hlt : k < len1
      · have hd : decide ((k : Int) < (len1 : Int)) = true := by simp; omega
        have dl : (k : Int) < (len1 : Int) := by omega
        have d0 : ¬ (k : Int) < 0 := by omega
        obtain ⟨g1, o1, x, rfl, hg1, hx⟩ := HI1.out k hlt
        have hx2 : wr.cell? ⟨g1, o1 + k, none⟩ = some (.int .i64 x) := (hE.out.cell (p := ⟨g1, o1 + k, none⟩) hg1).trans hx
        have ek : IntKind.i64.wrap ((k : Int) + 1) = (k : Int) + 1 := by have := HC1.out; exact IntWalk.i64_in _ (by omega)
        have HK := Lib.hid hlt
        have HREL : Hid (∃ D S, Hid (∀ x ∈ D, x < 256) ∧ Hid (wr.ownsRow wA.heap.size 5 1 (.slice (some ⟨g, 0, none⟩) N c) N (bA D).toList) ∧ Hid (S.length = 32 ∧ ∀ x ∈ S, x < 256) ∧ Hid (wr.heap[q]? = some (.cells (bA S) 31 (0, 0))) ∧ Hid (Below W.heap.size W wr)) := ⟨D, S, hD, hO, hSS, hS, hE⟩
        clear hg1 hx hk
        by_cases h6 : k < 6
        · have b6 : decide ((k : Int) < 6) = true := by simp; omega
          have i6 : (k : Int) < 6 := by omega
          by_cases h2 : k < len2
          · have b2 : decide ((k : Int) < (len2 : Int)) = true := by simp; omega
            have i2 : (k : Int) < (len2 : Int) := by omega
            by_cases hx0 : x ≥ 0
            · have b0 : decide (x ≥ 0) = true := by simpa using hx0
              by_cases hxN : x < (N : Int)
              · have bN : decide (x < (N : Int)) = true := by simpa using hxN
                obtain ⟨y, hy⟩ : ∃ y : Nat, (y : Int) = x := ⟨x.toNat, by omega⟩
                subst hy
                have hyN : y < N := by omega
                have ny0 : ¬ (y : Int) < 0 := by omega
                obtain ⟨g2, o2, ha2, hcp2, hg2, hc2⟩ := HB2_.out.2 (by have := HL2.out; omega)
                subst ha2
                have hz2 : wr.cell? ⟨g2, o2 + k, none⟩ = some (.int .u8 ((l2.getD k 0 : Nat) : Int)) := (hE.out.cell (p := ⟨g2, o2 + k, none⟩) hg2).trans (hc2 k (by have := HL2.out; omega))
                obtain ⟨z, hz⟩ : ∃ z, z = l2.getD k 0 := ⟨_, rfl⟩
                rw [← hz] at hz2
                have HZ : Hid (z < 256) := by show _ < _; rw [hz]; exact getD_lt HB2_.out.1 _
                have hfr := hO.out.frozenAt y
                have hcv : wr.cell? ⟨g, y, none⟩ = some (.int .u8 ((D.getD y 0 : Nat) : Int)) := by
                  have hDl : D.length = N := by have := hO.out.1; simpa [bA] using this
                  rw [hO.out.cellAt y (by omega), Array.getElem?_toList, bA_get _ _ (by omega)]
                have HN1 : Hid ((wr.setCell ⟨g, y, none⟩ (.int .u8 (z : Int))).ownsRow wA.heap.size 5 1 (.slice (some ⟨g, 0, none⟩) N c) N (bA (D.set y z)).toList) := by
                  have h := (hO.out.stored y (.int .u8 (z : Int))).1
                  have e : (bA D).toList.set y (.int .u8 (z : Int)) = (bA (D.set y z)).toList := by simp [bA, List.map_set]
                  rw [← e]; exact h
                have HN2 : Hid (∀ x ∈ D.set y z, x < 256) := by
                  intro u hu
                  rcases List.mem_or_eq_of_mem_set hu with h | h
                  · exact hD.out u h
                  · rw [h]; exact HZ.out
                have HN3 := Lib.hid ((Below.heap_setCell wr ⟨g, y, none⟩ (.int .u8 (z : Int)) q (by have := HQ.out; show q ≠ g; omega)).trans hS.out)
                have HN4 : Hid (Below W.heap.size W (wr.setCell ⟨g, y, none⟩ (.int .u8 (z : Int)))) := hE.out.setCell (p := ⟨g, y, none⟩) (by have := HG.out; show W.heap.size ≤ g; omega) _
                have HSS := Lib.hid hSS.out
                clear hz hcp2 hg2 hc2 hO hS hE hD hSS HREL
                go_wp2
                go_roundw
                case rel => exact ⟨k + 1, by have := HK.out; omega, by go_num, _, S, HN2.out, HN1.out, HSS.out, HN3.out, HN4.out⟩
                case measure => simp [intOf]; have := HK.out; omega
              · have bN : decide (x < (N : Int)) = false := by simpa using hxN
                clear hO hS hE hD hSS
                go_wp2
                go_roundw
                case rel => exact ⟨k + 1, by have := HK.out; omega, by go_num, HREL.out⟩
                case measure => simp [intOf]; have := HK.out; omega
            · have b0 : decide (x ≥ 0) = false := by simpa using hx0
              clear hO hS hE hD hSS
              go_wp2
              go_roundw
              case rel => exact ⟨k + 1, by have := HK.out; omega, by go_num, HREL.out⟩
              case measure => simp [intOf]; have := HK.out; omega
          · have b2 : decide ((k : Int) < (len2 : Int)) = false := by simp; omega
            have i2 : ¬ (k : Int) < (len2 : Int) := by omega
            clear hO hS hE hD hSS
            go_wp2
            go_roundw
            case rel => exact ⟨k + 1, by have := HK.out; omega, by go_num, HREL.out⟩
            case measure => simp [intOf]; have := HK.out; omega
        · have b6 : decide ((k : Int) < 6) = false := by simp; omega
          have i6 : ¬ (k : Int) < 6 := by omega
          clear hO hS hE hD hSS
          go_wp2
          go_roundw
          case rel => exact ⟨k + 1, by have := HK.out; omega, by go_num, HREL.out⟩
          case measure => simp [intOf]; have := HK.out; omega
      · have hd : decide ((k : Int) < (len1 : Int)) = false := by simp; omega
        have hd2 : ¬ (k : Int) < (len1 : Int) := by omega
        go_upto_if 64 with fail
        go_cut [65] from 66 to 66 (fun s65 wx => ∃ S, Hid (S.length = 32 ∧ ∀ x ∈ S, x < 256) ∧ Hid (wx.heap[q]? = some (.cells (bA S) 31 (0, 0))) ∧ Hid (wx.ownsRow wA.heap.size 5 1 (.slice (some ⟨g, 0, none⟩) N c) N (bA D).toList) ∧ Hid (Below W.heap.size W wx))
        case first =>
          cases again with
          | false =>
            go_wp2_with fail
            go_meet
            exact ⟨S, hSS, hS, hO, hE⟩
          | true =>
            go_wp2_with fail
            refine (HSUM.out D wr hD.out hO.out).mono ?_
            rintro e w8 ⟨⟨S8, hS8l, hS8b, rfl⟩, hb8⟩
            have HS8 : Hid (S8.length = 32 ∧ ∀ x ∈ S8, x < 256) := ⟨hS8l, hS8b⟩
            have HQ8 : Hid (w8.heap[q]? = some (.cells (bA S) 31 (0, 0))) := (hb8.block _ (lt_of_block hS.out)).trans hS.out
            have HO8 := Lib.hid (own_up hO.out hb8)
            have HE8 : Hid (Below W.heap.size W w8) := hE.out.trans (hb8.mono hE.out.size)
            clear hS8l hS8b hb8 hO hS hE
            go_wp2_with (first
              | (refine wpList_store_row rfl 31 (.tmp 14) (.tmp 66) rfl q (bA S8) rfl rfl 31 _ HQ8.out (by rw [info31, bA_size, HS8.out.1]) (by rw [bA_size, bA_size, HS8.out.1, hSS.out.1]) (bA_one _) ?_)
              | fail)
            go_meet
            exact ⟨S8, HS8.out, setRow_heap _ _ _ _ _ _ HQ8.out, own_keep HO8.out (fun g' h => setRow_other _ _ _ _ (by intro e; have h2 := h; simp [Value.ownBlock] at h2; have := HQ.out; omega)), below_setRow HE8.out (by have := HQ.out; have := HG.out; omega) _⟩
        case rest =>
          clear hS hO hE hSS hk
          obtain ⟨S9, HS9, HQ9, HO9, HE9⟩ := hcut
          have HD9 := Lib.hid hD.out
          clear hD
          have HDS : Hid (BytesAt wc (some ⟨q, 0, none⟩) 32 S9) := by have h := bytesAt_block_t HS9.out.2 HQ9.out; rw [HS9.out.1] at h; exact h
          obtain ⟨NN, hNN⟩ : ∃ NN, NN = N + 32 := ⟨_, rfl⟩
          have HNE := Lib.hid hNN
          clear hNN
          go_upto_region 15 with (first
            | (refine wpList_append_bytes (v := .slice (some ⟨g, 0, none⟩) N c) (base := wA.heap.size) (n := N) (m := 32) (l := S9) rfl (.tmp 67) (.tmp 68) rfl rfl HO9.out rfl HS9.out.1 HDS.out (fun h => by cases h) (by have := HNN.out; omega) (by have := lt_of_block HQ9.out; have := HQ.out; omega) ?_; intro v10 w10 hown10 hgr10; rw [bA_app, ← HNE.out] at hown10; have HO10 := Lib.hid hown10; have HE10 : Hid (Below W.heap.size W w10) := HE9.out.grown hgr10 HE9.out.size (fun k h => by have h2 := (HO9.out.lt k h).1; have := HG.out; omega); obtain ⟨g10, c10, hv10, hg10, hlt10⟩ := own_some hown10 (by have := HNE.out; omega); subst hv10; have HSZ10 : Hid (wA.heap.size ≤ w10.heap.size) := (by show _ ≤ _; omega); clear hown10 hgr10 hg10 hlt10)
            | fail)
          have HD10 : Hid (∀ x ∈ D ++ S9, x < 256) := by
            intro x hx
            rcases List.mem_append.1 hx with h | h
            · exact HD9.out x h
            · exact HS9.out.2 x h
          have HC10 : Hid (NN ≤ c10) := by
            rcases HO10.out.2 with ⟨h, _⟩ | ⟨_, _, _, h, _, _, h2, _⟩
            · cases h
            · injection h with _ _ h; subst h; exact h2
          generalize D ++ S9 = D10 at *
          clear HO9 HQ9 HE9 HDS HS9 HD9
          go_cut [77] from 70 to 76 (fun s77 wx => s77 = .bool (decide (0 < cut ∧ cut ≤ (NN : Int))) ∧ wx = w10)
          case first =>
            by_cases h1 : cut > 0
            · have b1 : decide (cut > 0) = true := by simpa using h1
              by_cases h2 : cut ≤ (NN : Int)
              · have b2 : decide (cut ≤ (NN : Int)) = true := by simpa using h2
                go_wp2_with fail
                go_meet
                exact ⟨congrArg Value.bool (decide_eq_true (p := 0 < cut ∧ cut ≤ (NN : Int)) ⟨h1, h2⟩).symm, rfl⟩
              · have b2 : decide (cut ≤ (NN : Int)) = false := by simpa using h2
                go_wp2_with fail
                go_meet
                exact ⟨congrArg Value.bool (decide_eq_false (p := 0 < cut ∧ cut ≤ (NN : Int)) (fun h => by omega)).symm, rfl⟩
            · have b1 : decide (cut > 0) = false := by simpa using h1
              go_wp2_with fail
              go_meet
              exact ⟨congrArg Value.bool (decide_eq_false (p := 0 < cut ∧ cut ≤ (NN : Int)) (fun h => by omega)).symm, rfl⟩
          case rest =>
            obtain ⟨rfl, rfl⟩ := hcut
            go_upto_if 77 with fail
            go_cut [13] from 77 to 83 (fun s13 wx => ∃ M D2, s13 = .slice (some ⟨g10, 0, none⟩) M c10 ∧ wx = wc ∧ Hid (M ≤ NN) ∧ Hid (wc.ownsRow wA.heap.size 5 1 (.slice (some ⟨g10, 0, none⟩) M c10) M (bA D2).toList) ∧ Hid (∀ x ∈ D2, x < 256))
            case first =>
              by_cases hb : 0 < cut ∧ cut ≤ (NN : Int)
              · rw [decide_eq_true hb]
                obtain ⟨M, hM⟩ : ∃ M : Nat, (M : Int) = (NN : Int) - cut := ⟨((NN : Int) - cut).toNat, by omega⟩
                have eM : IntKind.i64.wrap ((NN : Int) - cut) = (M : Int) := by rw [hM]; have := HNE.out; have := HNN.out; exact IntWalk.i64_in _ (by omega)
                have HMN : Hid (M ≤ NN) := by show _ ≤ _; omega
                have m0 : (0 : Int) ≤ (M : Int) := by omega
                have m1 : (M : Int) ≤ (c10 : Int) := by have := HC10.out; have := HMN.out; omega
                clear hM hb
                go_wp2_with fail
                go_meet
                exact ⟨M, D10.take M, rfl, rfl, HMN.out, own_take HO10.out HMN.out, fun x hx => HD10.out x (List.mem_of_mem_take hx)⟩
              · rw [decide_eq_false hb]
                go_wp2_with fail
                go_meet
                exact ⟨NN, D10, rfl, rfl, Nat.le_refl _, HO10.out, HD10.out⟩
            case rest =>
              obtain ⟨M, D2, rfl, hwx, HMN, HO11, HD11⟩ := hcut
              rename_i wx0 _
              subst hwx
              clear HO10 HD10 HC10
              obtain ⟨m5, hm5⟩ : ∃ m, m = min len5 9 := ⟨_, rfl⟩
              rw [← hm5] at HL5
              have HM5 : Hid (m5 ≤ 9) := by show _ ≤ _; omega
              go_upto_if 86 with fail
              go_cut [5] from 86 to 88 (fun s5 wx => s5 = .slice a5_ m5 cap5 ∧ wx = wc)
              case first =>
                by_cases h9 : len5 > 9
                · have b9 : decide ((len5 : Int) > 9) = true := by simp; omega
                  have i9 : (9 : Int) < (len5 : Int) := by omega
                  have hm9 : m5 = 9 := by omega
                  have hs : (9 : Int) ≤ (cap5 : Int) := by have := HC5.out; omega
                  go_wp2_with fail
                  go_meet
                  exact ⟨by rw [hm9], rfl⟩
                · have b9 : decide ((len5 : Int) > 9) = false := by simp; omega
                  have i9 : ¬ (9 : Int) < (len5 : Int) := by omega
                  have hm9 : m5 = len5 := by omega
                  go_wp2_with fail
                  go_meet
                  exact ⟨by rw [hm9], rfl⟩
              case rest =>
                obtain ⟨rfl, hwx⟩ := hcut
                subst hwx
                clear hm5
                have HB5W := Lib.hid (HB5_.out.up HE10.out (Nat.le_refl _))
                obtain ⟨K, hK⟩ : ∃ K, K = M + m5 := ⟨_, rfl⟩
                have HKE := Lib.hid hK
                clear hK
                have HKL : Hid (K ≤ 20041) := by have := HKE.out; have := HMN.out; have := HNE.out; have := HNN.out; have := HM5.out; show _ ≤ _; omega
                have HD3 : Hid (∀ x ∈ D2 ++ l5, x < 256) := by
                  intro x hx
                  rcases List.mem_append.1 hx with h | h
                  · exact HD11.out x h
                  · exact HB5_.out.1 x h
                go_wp2_with (first
                  | (refine wpList_append_bytes (v := .slice (some ⟨g10, 0, none⟩) M c10) (base := wA.heap.size) (n := M) (m := m5) (l := l5) rfl (.tmp 89) (.tmp 90) rfl rfl HO11.out rfl HL5.out HB5W.out HNL5.out (by have := HMN.out; have := HNE.out; have := HNN.out; have := HM5.out; omega) HSZ10.out ?_; intro v12 w12 hown12 hgr12; rw [bA_app, ← HKE.out] at hown12; have HE12 : Hid (Below W.heap.size W w12) := HE10.out.grown hgr12 HE10.out.size (fun k h => by have h2 := (HO11.out.lt k h).1; have := HG.out; omega); obtain ⟨a12, c12, hv12, hb12, hl12, hc12, hm12, hn12, _⟩ := own_bytes HD3.out hown12; subst hv12; have HB12 := Lib.hid hb12; have HL12 := Lib.hid hl12; have HC12 : Hid (K ≤ c12 ∧ c12 ≤ maxLen ∧ (a12 = none → c12 = 0)) := ⟨hc12, hm12, hn12⟩; clear hown12 hgr12 hb12 hl12 hc12 hm12 hn12)
                  | fail)
                generalize D2 ++ l5 = D3 at *
                have HS12 : Hid (SlAt w12 (.slice a12 K c12) D3) := ⟨a12, c12, by rw [HL12.out], HB12.out, HC12.out.2.2, by rw [HL12.out]; exact HC12.out.1, HC12.out.2.1⟩
                clear HO11 HD11 HB5W HE10
                refine (parse_c _ D3 (by have := HL12.out; have := HKL.out; omega) w12 HS12.out).mono ?_
                rintro e w13 ⟨hpr, hb13⟩
                obtain ⟨ok, Lx, Rx, nx, ax, cx, hsp, hnx, rfl, hrx⟩ := parse_res hpr
                have HSP := Lib.hid hsp
                have HNX := Lib.hid hnx
                have HRX := Lib.hid hrx
                have HE13 : Hid (Below W.heap.size W w13) := HE12.out.trans (hb13.mono HE12.out.size)
                have HB13 := Lib.hid (HB12.out.up hb13 (Nat.le_refl _))
                have HXL := Lib.hid hsp.len
                have HPSX : Hid (∀ (a : Option Addr) (c : Nat), (packA (.slice a nx c) Rx).size = 17) := fun a c => by rw [pack_size, HXL.out.1]
                have HZ14 : Hid ((w13.alloc (.cells #[.slice none 0 0, .int .i64 0, .int .i64 0, .int .i64 0, .int .i64 0, .int .i64 0, .int .i64 0, .int .i64 0, .int .i64 0, .int .i64 0, .int .i64 0, .int .i64 0, .int .i64 0, .int .i64 0, .int .i64 0, .int .i64 0, .int .i64 0] 33)).heap[w13.heap.size]? = some (.cells #[.slice none 0 0, .int .i64 0, .int .i64 0, .int .i64 0, .int .i64 0, .int .i64 0, .int .i64 0, .int .i64 0, .int .i64 0, .int .i64 0, .int .i64 0, .int .i64 0, .int .i64 0, .int .i64 0, .int .i64 0, .int .i64 0, .int .i64 0] 33 (0, 0))) := heap_new' _ _
                clear hpr hb13 hsp hnx hrx HS12 HB12 HE12
                go_wp2_with (first
                  | (refine wpList_store_row rfl 33 (.tmp 17) (.tmp 95) rfl w13.heap.size (packA (.slice ax nx cx) Rx) rfl rfl 33 _ HZ14.out (by rw [pack33, HPSX.out]) (by rw [HPSX.out]; rfl) (packA_one _ _ _ _) ?_; generalize hW15 : World.setRow _ _ _ = w15; have HX15 : Hid (w15.heap[w13.heap.size]? = some (.cells (packA (.slice ax nx cx) Rx) 33 (0, 0))) := (by rw [← hW15]; exact setRow_heap _ _ _ _ _ _ HZ14.out); have hb15 : Below w13.heap.size w13 w15 := (by rw [← hW15]; exact below_setRow ((Below.refl _ _).alloc (Nat.le_refl _) _) (Nat.le_refl _) _); have HE15 : Hid (Below W.heap.size W w15) := HE13.out.trans (hb15.mono HE13.out.size); have HR15 := Lib.hid (HRX.out.up hb15 (Nat.le_refl _)); have HB15 := Lib.hid (HB13.out.up hb15 (Nat.le_refl _)); clear hb15 hW15)
                  | fail)
                clear HRX HB13 HE13 HZ14
                obtain ⟨xb, hxb⟩ : ∃ xb, xb = w13.heap.size := ⟨_, rfl⟩
                rw [← hxb] at HX15 ⊢
                clear hxb
                refine (rparse_c a12 K c12 D3 HL12.out (by have := HKL.out; omega) HC12.out.1 HC12.out.2.1 w15 HB15.out).mono ?_
                rintro e w16 ⟨hrr, hb16⟩
                obtain ⟨ok', Lx', Rx', nx', aw, cw, hsp', hnx', rfl, hrw⟩ := rparse_res hrr
                obtain ⟨rfl, rfl, rfl⟩ := HSP.out.one hsp'
                have hnn : nx' = nx := by rw [← hnx', HNX.out]
                subst hnn
                have HRW16 := Lib.hid hrw
                have HE16 : Hid (Below W.heap.size W w16) := HE15.out.trans (hb16.mono HE15.out.size)
                have HX16 : Hid (w16.heap[xb]? = some (.cells (packA (.slice ax nx' cx) Rx) 33 (0, 0))) := (hb16.block _ (lt_of_block HX15.out)).trans HX15.out
                have HR16 := Lib.hid (HR15.out.up hb16 (Nat.le_refl _))
                have HZ17 : Hid ((w16.alloc (.cells #[.slice none 0 0, .int .i64 0, .int .i64 0, .int .i64 0, .int .i64 0, .int .i64 0, .int .i64 0, .int .i64 0, .int .i64 0, .int .i64 0, .int .i64 0, .int .i64 0, .int .i64 0, .int .i64 0, .int .i64 0, .int .i64 0, .int .i64 0] 25)).heap[w16.heap.size]? = some (.cells #[.slice none 0 0, .int .i64 0, .int .i64 0, .int .i64 0, .int .i64 0, .int .i64 0, .int .i64 0, .int .i64 0, .int .i64 0, .int .i64 0, .int .i64 0, .int .i64 0, .int .i64 0, .int .i64 0, .int .i64 0, .int .i64 0, .int .i64 0] 25 (0, 0))) := heap_new' _ _
                clear hrr hb16 hsp' hnx' hrw HX15 HE15 HR15 HB15
                go_wp2_with (first
                  | (refine wpList_store_row rfl 25 (.tmp 19) (.tmp 100) rfl w16.heap.size (packA (.slice aw nx' cw) Rx) rfl rfl 25 _ HZ17.out (by rw [pack25, HPSX.out]) (by rw [HPSX.out]; rfl) (packA_one _ _ _ _) ?_; generalize hW18 : World.setRow _ _ _ = w18; have HW18 : Hid (w18.heap[w16.heap.size]? = some (.cells (packA (.slice aw nx' cw) Rx) 25 (0, 0))) := (by rw [← hW18]; exact setRow_heap _ _ _ _ _ _ HZ17.out); have hb18 : Below w16.heap.size w16 w18 := (by rw [← hW18]; exact below_setRow ((Below.refl _ _).alloc (Nat.le_refl _) _) (Nat.le_refl _) _); have HE18 : Hid (Below W.heap.size W w18) := HE16.out.trans (hb18.mono HE16.out.size); have HR18 := Lib.hid (HR16.out.up hb18 (Nat.le_refl _)); have HRW18 := Lib.hid (HRW16.out.up hb18 (Nat.le_refl _)); have HX18 : Hid (w18.heap[xb]? = some (.cells (packA (.slice ax nx' cx) Rx) 33 (0, 0))) := (hb18.block _ (lt_of_block HX16.out)).trans HX16.out; clear hb18 hW18)
                  | fail)
                obtain ⟨wb, hwb⟩ : ∃ wb, wb = w16.heap.size := ⟨_, rfl⟩
                rw [← hwb] at HW18 ⊢
                have HXX : Hid (∀ w', Below w18.heap.size w18 w' → w'.heap[xb]? = some (.cells (packA (.slice ax nx' cx) Rx) 33 (0, 0))) := fun w' h => (h.block _ (lt_of_block HX18.out)).trans HX18.out
                have HWW : Hid (∀ w', Below w18.heap.size w18 w' → w'.heap[wb]? = some (.cells (packA (.slice aw nx' cw) Rx) 25 (0, 0))) := fun w' h => (h.block _ (lt_of_block HW18.out)).trans HW18.out
                have HSAME : Hid (∀ w', Below w18.heap.size w18 w' → Calls Try.prog 12 #[.agg (packA (.slice ax nx' cx) Rx), .agg (packA (.slice aw nx' cw) Rx)] w' fun e w'' => e = .returned (.bool true) ∧ Below w'.heap.size w' w'') := fun w' h => rsame_c ax aw nx' cx cw Lx Rx HNX.out (by have := HXL.out.2; have := HNX.out; omega) HXL.out.1 w' (HR18.out.up h (Nat.le_refl _)) (HRW18.out.up h (Nat.le_refl _))
                clear hwb HRW16 HE16 HX16 HR16 HZ17 HX18 HW18
                cases ok with
                | true =>
                  rw [show errP true = 0 from rfl]
                  refine wp_region_held_drew (S := fun w' => Below w18.heap.size w18 w') (by kernel_rfl) (Below.refl _ _).drew ?_
                  intro hS
                  generalize w18.drew = WD at hS ⊢
                  change wpAnyH _ _ _ _ _ 21 #[false, false, false, false, false, false, false, false, false, false, false, false, false, false, false, false, false, false, false, false, false] _ _
                  refine wpAnyH_take (i := 0) (v := ?_) rfl (by kernel_rfl) (by kernel_rfl) (by kernel_rfl) (fun _ _ _ h => h) (Or.inl ⟨by rfl, ?hy⟩) hS ?_
                  case hy => intro w' hSw; go_simp; try with_reducible rfl
                  simp only [List.getElem_toArray, List.getElem_cons_succ, List.getElem_cons_zero, Act.put, List.setIfInBounds_toArray, List.set_cons_zero, List.set_cons_succ]
                  change wpAnyH _ _ _ _ _ 20 #[true, false, false, false, false, false, false, false, false, false, false, false, false, false, false, false, false, false, false, false, false] _ _
                  refine wpAnyH_take (i := 1) (v := ?_) rfl (by kernel_rfl) (by kernel_rfl) (by kernel_rfl) (fun _ _ _ h => h) (Or.inl ⟨by rfl, ?hy⟩) hS ?_
                  case hy => intro w' hSw; go_simp; try with_reducible rfl
                  simp only [List.getElem_toArray, List.getElem_cons_succ, List.getElem_cons_zero, Act.put, List.setIfInBounds_toArray, List.set_cons_zero, List.set_cons_succ]
                  change wpAnyH _ _ _ _ _ 19 #[true, true, false, false, false, false, false, false, false, false, false, false, false, false, false, false, false, false, false, false, false] _ _
                  refine wpAnyH_take (i := 2) (v := ?_) rfl (by kernel_rfl) (by kernel_rfl) (by kernel_rfl) (fun _ _ _ h => h) (Or.inl ⟨by rfl, ?hy⟩) hS ?_
                  case hy => intro w' hSw; go_simp; try with_reducible rfl
                  simp only [List.getElem_toArray, List.getElem_cons_succ, List.getElem_cons_zero, Act.put, List.setIfInBounds_toArray, List.set_cons_zero, List.set_cons_succ]
                  change wpAnyH _ _ _ _ _ 18 #[true, true, true, false, false, false, false, false, false, false, false, false, false, false, false, false, false, false, false, false, false] _ _
                  refine wpAnyH_take (i := 3) (v := ?_) rfl (by kernel_rfl) (by kernel_rfl) (by kernel_rfl) (fun _ _ _ h => h) (Or.inl ⟨by rfl, ?hy⟩) hS ?_
                  case hy => intro w' hSw; go_simp; try with_reducible rfl
                  simp only [List.getElem_toArray, List.getElem_cons_succ, List.getElem_cons_zero, Act.put, List.setIfInBounds_toArray, List.set_cons_zero, List.set_cons_succ]
                  change wpAnyH _ _ _ _ _ 17 #[true, true, true, true, false, false, false, false, false, false, false, false, false, false, false, false, false, false, false, false, false] _ _
                  refine wpAnyH_take (i := 4) (v := ?_) rfl (by kernel_rfl) (by kernel_rfl) (by kernel_rfl) (fun _ _ _ h => h) (Or.inl ⟨by rfl, ?hy⟩) hS ?_
                  case hy => intro w' hSw; go_simp; try with_reducible rfl
                  simp only [List.getElem_toArray, List.getElem_cons_succ, List.getElem_cons_zero, Act.put, List.setIfInBounds_toArray, List.set_cons_zero, List.set_cons_succ]
                  change wpAnyH _ _ _ _ _ 16 #[true, true, true, true, true, false, false, false, false, false, false, false, false, false, false, false, false, false, false, false, false] _ _
                  refine wpAnyH_take (i := 5) (v := ?_) rfl (by kernel_rfl) (by kernel_rfl) (by kernel_rfl) (fun _ _ _ h => h) (Or.inl ⟨by rfl, ?hy⟩) hS ?_
                  case hy => intro w' hSw; go_simp; try with_reducible rfl
                  simp only [List.getElem_toArray, List.getElem_cons_succ, List.getElem_cons_zero, Act.put, List.setIfInBounds_toArray, List.set_cons_zero, List.set_cons_succ]
                  change wpAnyH _ _ _ _ _ 15 #[true, true, true, true, true, true, false, false, false, false, false, false, false, false, false, false, false, false, false, false, false] _ _
                  refine wpAnyH_take (i := 6) (v := ?_) rfl (by kernel_rfl) (by kernel_rfl) (by kernel_rfl) (fun _ _ _ h => h) (Or.inl ⟨by rfl, ?hy⟩) hS ?_
                  case hy => intro w' hSw; go_simp; try with_reducible rfl
                  simp only [List.getElem_toArray, List.getElem_cons_succ, List.getElem_cons_zero, Act.put, List.setIfInBounds_toArray, List.set_cons_zero, List.set_cons_succ]
                  change wpAnyH _ _ _ _ _ 14 #[true, true, true, true, true, true, true, false, false, false, false, false, false, false, false, false, false, false, false, false, false] _ _
                  refine wpAnyH_take (i := 7) rfl (by kernel_rfl) (by kernel_rfl) (by kernel_rfl) (fun _ _ _ h => h) (Or.inr ⟨by rfl, rfl⟩) hS ?_
                  simp only [List.getElem_toArray, List.getElem_cons_succ, List.getElem_cons_zero, Act.put, List.setIfInBounds_toArray, List.set_cons_zero, List.set_cons_succ]
                  change wpAnyH _ _ _ _ _ 13 #[true, true, true, true, true, true, true, true, false, false, false, false, false, false, false, false, false, false, false, false, false] _ _
                  refine wpAnyH_take (i := 8) rfl (by kernel_rfl) (by kernel_rfl) (by kernel_rfl) (fun _ _ _ h => h) (Or.inr ⟨by rfl, rfl⟩) hS ?_
                  simp only [List.getElem_toArray, List.getElem_cons_succ, List.getElem_cons_zero, Act.put, List.setIfInBounds_toArray, List.set_cons_zero, List.set_cons_succ]
                  change wpAnyH _ _ _ _ _ 12 #[true, true, true, true, true, true, true, true, true, false, false, false, false, false, false, false, false, false, false, false, false] _ _
                  refine wpAnyH_take (i := 9) (v := ?_) rfl (by kernel_rfl) (by kernel_rfl) (by kernel_rfl) (fun _ _ _ h => h) (Or.inl ⟨by rfl, ?hy⟩) hS ?_
                  case hy => intro w' hSw; go_simp; try with_reducible rfl
                  simp only [List.getElem_toArray, List.getElem_cons_succ, List.getElem_cons_zero, Act.put, List.setIfInBounds_toArray, List.set_cons_zero, List.set_cons_succ]
                  change wpAnyH _ _ _ _ _ 11 #[true, true, true, true, true, true, true, true, true, true, false, false, false, false, false, false, false, false, false, false, false] _ _
                  refine wpAnyH_take (i := 10) (v := ?_) rfl (by kernel_rfl) (by kernel_rfl) (by kernel_rfl) (fun _ _ _ h => h) (Or.inl ⟨by rfl, ?hy⟩) hS ?_
                  case hy => intro w' hSw; go_simp; try with_reducible rfl
                  simp only [List.getElem_toArray, List.getElem_cons_succ, List.getElem_cons_zero, Act.put, List.setIfInBounds_toArray, List.set_cons_zero, List.set_cons_succ]
                  change wpAnyH _ _ _ _ _ 10 #[true, true, true, true, true, true, true, true, true, true, true, false, false, false, false, false, false, false, false, false, false] _ _
                  refine wpAnyH_take (i := 11) (v := ?_) rfl (by kernel_rfl) (by kernel_rfl) (by kernel_rfl) (fun _ _ _ h => h) (Or.inl ⟨by rfl, ?hy⟩) hS ?_
                  case hy => intro w' hSw; go_simp; try with_reducible rfl
                  simp only [List.getElem_toArray, List.getElem_cons_succ, List.getElem_cons_zero, Act.put, List.setIfInBounds_toArray, List.set_cons_zero, List.set_cons_succ]
                  change wpAnyH _ _ _ _ _ 9 #[true, true, true, true, true, true, true, true, true, true, true, true, false, false, false, false, false, false, false, false, false] _ _
                  refine wpAnyH_take (i := 12) rfl (by kernel_rfl) (by kernel_rfl) (by kernel_rfl) (fun _ _ _ h => h) (yieldsIf_load_mid (by rfl) _ _ rfl xb 0 rfl (packA (.slice ax nx' cx) Rx).toList _ (fun w' h => range_row (HXX.out w' h)) Try.underlying33 rfl (by rw [pack33, Array.length_toList, HPSX.out])) hS ?_
                  simp only [List.getElem_toArray, List.getElem_cons_succ, List.getElem_cons_zero, Act.put, List.setIfInBounds_toArray, List.set_cons_zero, List.set_cons_succ]
                  change wpAnyH _ _ _ _ _ 8 #[true, true, true, true, true, true, true, true, true, true, true, true, true, false, false, false, false, false, false, false, false] _ _
                  refine wpAnyH_take (i := 14) rfl (by kernel_rfl) (by kernel_rfl) (by kernel_rfl) (fun _ _ _ h => h) (yieldsIf_load_mid (by rfl) _ _ rfl wb 0 rfl (packA (.slice aw nx' cw) Rx).toList _ (fun w' h => range_row (HWW.out w' h)) Try.underlying25 rfl (by rw [pack25, Array.length_toList, HPSX.out])) hS ?_
                  simp only [List.getElem_toArray, List.getElem_cons_succ, List.getElem_cons_zero, Act.put, List.setIfInBounds_toArray, List.set_cons_zero, List.set_cons_succ]
                  change wpAnyH _ _ _ _ _ 7 #[true, true, true, true, true, true, true, true, true, true, true, true, true, false, true, false, false, false, false, false, false] _ _
                  refine wpAnyH_ready (rs := [13]) (by kernel_rfl) (by simp) ?_
                  refine AllReadyH.cons rfl (fun K hK => ?_) AllReadyH.nil
                  rw [if_pos (by rfl)]
                  go_simp
                  refine (plain_c ax nx' cx Rx HXL.out.1 WD).mono ?_
                  rintro e wx ⟨rfl, hbx⟩
                  refine hK.out _ _ (hS.trans (hbx.mono hS.size)) (fun hSa => ?_)
                  clear hK K
                  simp only [List.getElem_toArray, List.getElem_cons_succ, List.getElem_cons_zero, Act.put, List.setIfInBounds_toArray, List.set_cons_zero, List.set_cons_succ]
                  change wpAnyH _ _ _ _ _ 6 #[true, true, true, true, true, true, true, true, true, true, true, true, true, true, true, false, false, false, false, false, false] _ _
                  refine wpAnyH_ready (rs := [15]) (by kernel_rfl) (by simp) ?_
                  refine AllReadyH.cons rfl (fun K hK => ?_) AllReadyH.nil
                  rw [if_pos (by rfl)]
                  go_simp
                  refine (HSAME.out wx hSa).mono ?_
                  rintro e wy ⟨rfl, hby⟩
                  refine hK.out _ _ (hSa.trans (hby.mono hSa.size)) (fun hSb => ?_)
                  clear hK K
                  simp only [List.getElem_toArray, List.getElem_cons_succ, List.getElem_cons_zero, Act.put, List.setIfInBounds_toArray, List.set_cons_zero, List.set_cons_succ]
                  change wpAnyH _ _ _ _ _ 5 #[true, true, true, true, true, true, true, true, true, true, true, true, true, true, true, true, false, false, false, false, false] _ _
                  refine wpAnyH_take (i := 16) (v := ?_) rfl (by kernel_rfl) (by kernel_rfl) (by kernel_rfl) (fun _ _ _ h => h) (Or.inl ⟨by rfl, ?hy⟩) hSb ?_
                  case hy => intro w' hSw; go_simp; try with_reducible rfl
                  simp only [List.getElem_toArray, List.getElem_cons_succ, List.getElem_cons_zero, Act.put, List.setIfInBounds_toArray, List.set_cons_zero, List.set_cons_succ]
                  change wpAnyH _ _ _ _ _ 4 #[true, true, true, true, true, true, true, true, true, true, true, true, true, true, true, true, true, false, false, false, false] _ _
                  refine wpAnyH_take (i := 17) (v := ?_) rfl (by kernel_rfl) (by kernel_rfl) (by kernel_rfl) (fun _ _ _ h => h) (Or.inl ⟨by rfl, ?hy⟩) hSb ?_
                  case hy => intro w' hSw; go_simp; try with_reducible rfl
                  simp only [List.getElem_toArray, List.getElem_cons_succ, List.getElem_cons_zero, Act.put, List.setIfInBounds_toArray, List.set_cons_zero, List.set_cons_succ]
                  change wpAnyH _ _ _ _ _ 3 #[true, true, true, true, true, true, true, true, true, true, true, true, true, true, true, true, true, true, false, false, false] _ _
                  refine wpAnyH_ready (rs := [18]) (by kernel_rfl) (by simp) ?_
                  refine AllReadyH.cons rfl (fun K hK => ?_) AllReadyH.nil
                  rw [if_pos (by rfl)]
                  go_simp
                  refine (awake36_c wy).mono ?_
                  rintro e wz ⟨rfl, hbz⟩
                  refine hK.out _ _ (hSb.trans (hbz.mono hSb.size)) (fun hSc => ?_)
                  clear hK K
                  simp only [List.getElem_toArray, List.getElem_cons_succ, List.getElem_cons_zero, Act.put, List.setIfInBounds_toArray, List.set_cons_zero, List.set_cons_succ]
                  change wpAnyH _ _ _ _ _ 2 #[true, true, true, true, true, true, true, true, true, true, true, true, true, true, true, true, true, true, true, false, false] _ _
                  refine wpAnyH_take (i := 19) (v := ?_) rfl (by kernel_rfl) (by kernel_rfl) (by kernel_rfl) (fun _ _ _ h => h) (Or.inl ⟨by rfl, ?hy⟩) hSc ?_
                  case hy => intro w' hSw; go_simp; try with_reducible rfl
                  simp only [List.getElem_toArray, List.getElem_cons_succ, List.getElem_cons_zero, Act.put, List.setIfInBounds_toArray, List.set_cons_zero, List.set_cons_succ]
                  change wpAnyH _ _ _ _ _ 1 #[true, true, true, true, true, true, true, true, true, true, true, true, true, true, true, true, true, true, true, true, false] _ _
                  refine wpAnyH_take (i := 20) (v := ?_) rfl (by kernel_rfl) (by kernel_rfl) (by kernel_rfl) (fun _ _ _ h => h) (Or.inl ⟨by rfl, ?hy⟩) hSc ?_
                  case hy => intro w' hSw; go_simp; try with_reducible rfl
                  simp only [List.getElem_toArray, List.getElem_cons_succ, List.getElem_cons_zero, Act.put, List.setIfInBounds_toArray, List.set_cons_zero, List.set_cons_succ]
                  change wpAnyH _ _ _ _ _ 0 #[true, true, true, true, true, true, true, true, true, true, true, true, true, true, true, true, true, true, true, true, true] _ _
                  refine wpAnyH_done (by kernel_rfl) ?_ _
                  go_wp2_with fail
                  go_ret
                  exact ⟨rfl, HE18.out.trans (hSc.mono HE18.out.size)⟩
                | false =>
                  rw [show errP false = 4 from rfl]
                  refine wp_region_held_drew (S := fun w' => Below w18.heap.size w18 w') (by kernel_rfl) (Below.refl _ _).drew ?_
                  intro hS
                  generalize w18.drew = WD at hS ⊢
                  change wpAnyH _ _ _ _ _ 21 #[false, false, false, false, false, false, false, false, false, false, false, false, false, false, false, false, false, false, false, false, false] _ _
                  refine wpAnyH_take (i := 0) (v := ?_) rfl (by kernel_rfl) (by kernel_rfl) (by kernel_rfl) (fun _ _ _ h => h) (Or.inl ⟨by rfl, ?hy⟩) hS ?_
                  case hy => intro w' hSw; go_simp; try with_reducible rfl
                  simp only [List.getElem_toArray, List.getElem_cons_succ, List.getElem_cons_zero, Act.put, List.setIfInBounds_toArray, List.set_cons_zero, List.set_cons_succ]
                  change wpAnyH _ _ _ _ _ 20 #[true, false, false, false, false, false, false, false, false, false, false, false, false, false, false, false, false, false, false, false, false] _ _
                  refine wpAnyH_take (i := 1) (v := ?_) rfl (by kernel_rfl) (by kernel_rfl) (by kernel_rfl) (fun _ _ _ h => h) (Or.inl ⟨by rfl, ?hy⟩) hS ?_
                  case hy => intro w' hSw; go_simp; try with_reducible rfl
                  simp only [List.getElem_toArray, List.getElem_cons_succ, List.getElem_cons_zero, Act.put, List.setIfInBounds_toArray, List.set_cons_zero, List.set_cons_succ]
                  change wpAnyH _ _ _ _ _ 19 #[true, true, false, false, false, false, false, false, false, false, false, false, false, false, false, false, false, false, false, false, false] _ _
                  refine wpAnyH_take (i := 2) (v := ?_) rfl (by kernel_rfl) (by kernel_rfl) (by kernel_rfl) (fun _ _ _ h => h) (Or.inl ⟨by rfl, ?hy⟩) hS ?_
                  case hy => intro w' hSw; go_simp; try with_reducible rfl
                  simp only [List.getElem_toArray, List.getElem_cons_succ, List.getElem_cons_zero, Act.put, List.setIfInBounds_toArray, List.set_cons_zero, List.set_cons_succ]
                  change wpAnyH _ _ _ _ _ 18 #[true, true, true, false, false, false, false, false, false, false, false, false, false, false, false, false, false, false, false, false, false] _ _
                  refine wpAnyH_take (i := 3) (v := ?_) rfl (by kernel_rfl) (by kernel_rfl) (by kernel_rfl) (fun _ _ _ h => h) (Or.inl ⟨by rfl, ?hy⟩) hS ?_
                  case hy => intro w' hSw; go_simp; try with_reducible rfl
                  simp only [List.getElem_toArray, List.getElem_cons_succ, List.getElem_cons_zero, Act.put, List.setIfInBounds_toArray, List.set_cons_zero, List.set_cons_succ]
                  change wpAnyH _ _ _ _ _ 17 #[true, true, true, true, false, false, false, false, false, false, false, false, false, false, false, false, false, false, false, false, false] _ _
                  refine wpAnyH_take (i := 4) (v := ?_) rfl (by kernel_rfl) (by kernel_rfl) (by kernel_rfl) (fun _ _ _ h => h) (Or.inl ⟨by rfl, ?hy⟩) hS ?_
                  case hy => intro w' hSw; go_simp; try with_reducible rfl
                  simp only [List.getElem_toArray, List.getElem_cons_succ, List.getElem_cons_zero, Act.put, List.setIfInBounds_toArray, List.set_cons_zero, List.set_cons_succ]
                  change wpAnyH _ _ _ _ _ 16 #[true, true, true, true, true, false, false, false, false, false, false, false, false, false, false, false, false, false, false, false, false] _ _
                  refine wpAnyH_take (i := 5) (v := ?_) rfl (by kernel_rfl) (by kernel_rfl) (by kernel_rfl) (fun _ _ _ h => h) (Or.inl ⟨by rfl, ?hy⟩) hS ?_
                  case hy => intro w' hSw; go_simp; try with_reducible rfl
                  simp only [List.getElem_toArray, List.getElem_cons_succ, List.getElem_cons_zero, Act.put, List.setIfInBounds_toArray, List.set_cons_zero, List.set_cons_succ]
                  change wpAnyH _ _ _ _ _ 15 #[true, true, true, true, true, true, false, false, false, false, false, false, false, false, false, false, false, false, false, false, false] _ _
                  refine wpAnyH_take (i := 6) (v := ?_) rfl (by kernel_rfl) (by kernel_rfl) (by kernel_rfl) (fun _ _ _ h => h) (Or.inl ⟨by rfl, ?hy⟩) hS ?_
                  case hy => intro w' hSw; go_simp; try with_reducible rfl
                  simp only [List.getElem_toArray, List.getElem_cons_succ, List.getElem_cons_zero, Act.put, List.setIfInBounds_toArray, List.set_cons_zero, List.set_cons_succ]
                  change wpAnyH _ _ _ _ _ 14 #[true, true, true, true, true, true, true, false, false, false, false, false, false, false, false, false, false, false, false, false, false] _ _
                  refine wpAnyH_take (i := 7) (v := ?_) rfl (by kernel_rfl) (by kernel_rfl) (by kernel_rfl) (fun _ _ _ h => h) (Or.inl ⟨by rfl, ?hy⟩) hS ?_
                  case hy => intro w' hSw; go_simp; try with_reducible rfl
                  simp only [List.getElem_toArray, List.getElem_cons_succ, List.getElem_cons_zero, Act.put, List.setIfInBounds_toArray, List.set_cons_zero, List.set_cons_succ]
                  change wpAnyH _ _ _ _ _ 13 #[true, true, true, true, true, true, true, true, false, false, false, false, false, false, false, false, false, false, false, false, false] _ _
                  refine wpAnyH_take (i := 8) (v := ?_) rfl (by kernel_rfl) (by kernel_rfl) (by kernel_rfl) (fun _ _ _ h => h) (Or.inl ⟨by rfl, ?hy⟩) hS ?_
                  case hy => intro w' hSw; go_simp; try with_reducible rfl
                  simp only [List.getElem_toArray, List.getElem_cons_succ, List.getElem_cons_zero, Act.put, List.setIfInBounds_toArray, List.set_cons_zero, List.set_cons_succ]
                  change wpAnyH _ _ _ _ _ 12 #[true, true, true, true, true, true, true, true, true, false, false, false, false, false, false, false, false, false, false, false, false] _ _
                  refine wpAnyH_take (i := 9) (v := ?_) rfl (by kernel_rfl) (by kernel_rfl) (by kernel_rfl) (fun _ _ _ h => h) (Or.inl ⟨by rfl, ?hy⟩) hS ?_
                  case hy => intro w' hSw; go_simp; try with_reducible rfl
                  simp only [List.getElem_toArray, List.getElem_cons_succ, List.getElem_cons_zero, Act.put, List.setIfInBounds_toArray, List.set_cons_zero, List.set_cons_succ]
                  change wpAnyH _ _ _ _ _ 11 #[true, true, true, true, true, true, true, true, true, true, false, false, false, false, false, false, false, false, false, false, false] _ _
                  refine wpAnyH_take (i := 10) (v := ?_) rfl (by kernel_rfl) (by kernel_rfl) (by kernel_rfl) (fun _ _ _ h => h) (Or.inl ⟨by rfl, ?hy⟩) hS ?_
                  case hy => intro w' hSw; go_simp; try with_reducible rfl
                  simp only [List.getElem_toArray, List.getElem_cons_succ, List.getElem_cons_zero, Act.put, List.setIfInBounds_toArray, List.set_cons_zero, List.set_cons_succ]
                  change wpAnyH _ _ _ _ _ 10 #[true, true, true, true, true, true, true, true, true, true, true, false, false, false, false, false, false, false, false, false, false] _ _
                  refine wpAnyH_take (i := 11) (v := ?_) rfl (by kernel_rfl) (by kernel_rfl) (by kernel_rfl) (fun _ _ _ h => h) (Or.inl ⟨by rfl, ?hy⟩) hS ?_
                  case hy => intro w' hSw; go_simp; try with_reducible rfl
                  simp only [List.getElem_toArray, List.getElem_cons_succ, List.getElem_cons_zero, Act.put, List.setIfInBounds_toArray, List.set_cons_zero, List.set_cons_succ]
                  change wpAnyH _ _ _ _ _ 9 #[true, true, true, true, true, true, true, true, true, true, true, true, false, false, false, false, false, false, false, false, false] _ _
                  refine wpAnyH_take (i := 12) rfl (by kernel_rfl) (by kernel_rfl) (by kernel_rfl) (fun _ _ _ h => h) (yieldsIf_load_mid (by rfl) _ _ rfl xb 0 rfl (packA (.slice ax nx' cx) Rx).toList _ (fun w' h => range_row (HXX.out w' h)) Try.underlying33 rfl (by rw [pack33, Array.length_toList, HPSX.out])) hS ?_
                  simp only [List.getElem_toArray, List.getElem_cons_succ, List.getElem_cons_zero, Act.put, List.setIfInBounds_toArray, List.set_cons_zero, List.set_cons_succ]
                  change wpAnyH _ _ _ _ _ 8 #[true, true, true, true, true, true, true, true, true, true, true, true, true, false, false, false, false, false, false, false, false] _ _
                  refine wpAnyH_take (i := 14) rfl (by kernel_rfl) (by kernel_rfl) (by kernel_rfl) (fun _ _ _ h => h) (yieldsIf_load_mid (by rfl) _ _ rfl wb 0 rfl (packA (.slice aw nx' cw) Rx).toList _ (fun w' h => range_row (HWW.out w' h)) Try.underlying25 rfl (by rw [pack25, Array.length_toList, HPSX.out])) hS ?_
                  simp only [List.getElem_toArray, List.getElem_cons_succ, List.getElem_cons_zero, Act.put, List.setIfInBounds_toArray, List.set_cons_zero, List.set_cons_succ]
                  change wpAnyH _ _ _ _ _ 7 #[true, true, true, true, true, true, true, true, true, true, true, true, true, false, true, false, false, false, false, false, false] _ _
                  refine wpAnyH_ready (rs := [13]) (by kernel_rfl) (by simp) ?_
                  refine AllReadyH.cons rfl (fun K hK => ?_) AllReadyH.nil
                  rw [if_pos (by rfl)]
                  go_simp
                  refine (plain_c ax nx' cx Rx HXL.out.1 WD).mono ?_
                  rintro e wx ⟨rfl, hbx⟩
                  refine hK.out _ _ (hS.trans (hbx.mono hS.size)) (fun hSa => ?_)
                  clear hK K
                  simp only [List.getElem_toArray, List.getElem_cons_succ, List.getElem_cons_zero, Act.put, List.setIfInBounds_toArray, List.set_cons_zero, List.set_cons_succ]
                  change wpAnyH _ _ _ _ _ 6 #[true, true, true, true, true, true, true, true, true, true, true, true, true, true, true, false, false, false, false, false, false] _ _
                  refine wpAnyH_ready (rs := [15]) (by kernel_rfl) (by simp) ?_
                  refine AllReadyH.cons rfl (fun K hK => ?_) AllReadyH.nil
                  rw [if_pos (by rfl)]
                  go_simp
                  refine (HSAME.out wx hSa).mono ?_
                  rintro e wy ⟨rfl, hby⟩
                  refine hK.out _ _ (hSa.trans (hby.mono hSa.size)) (fun hSb => ?_)
                  clear hK K
                  simp only [List.getElem_toArray, List.getElem_cons_succ, List.getElem_cons_zero, Act.put, List.setIfInBounds_toArray, List.set_cons_zero, List.set_cons_succ]
                  change wpAnyH _ _ _ _ _ 5 #[true, true, true, true, true, true, true, true, true, true, true, true, true, true, true, true, false, false, false, false, false] _ _
                  refine wpAnyH_take (i := 16) (v := ?_) rfl (by kernel_rfl) (by kernel_rfl) (by kernel_rfl) (fun _ _ _ h => h) (Or.inl ⟨by rfl, ?hy⟩) hSb ?_
                  case hy => intro w' hSw; go_simp; try with_reducible rfl
                  simp only [List.getElem_toArray, List.getElem_cons_succ, List.getElem_cons_zero, Act.put, List.setIfInBounds_toArray, List.set_cons_zero, List.set_cons_succ]
                  change wpAnyH _ _ _ _ _ 4 #[true, true, true, true, true, true, true, true, true, true, true, true, true, true, true, true, true, false, false, false, false] _ _
                  refine wpAnyH_take (i := 17) (v := ?_) rfl (by kernel_rfl) (by kernel_rfl) (by kernel_rfl) (fun _ _ _ h => h) (Or.inl ⟨by rfl, ?hy⟩) hSb ?_
                  case hy => intro w' hSw; go_simp; try with_reducible rfl
                  simp only [List.getElem_toArray, List.getElem_cons_succ, List.getElem_cons_zero, Act.put, List.setIfInBounds_toArray, List.set_cons_zero, List.set_cons_succ]
                  change wpAnyH _ _ _ _ _ 3 #[true, true, true, true, true, true, true, true, true, true, true, true, true, true, true, true, true, true, false, false, false] _ _
                  refine wpAnyH_ready (rs := [18]) (by kernel_rfl) (by simp) ?_
                  refine AllReadyH.cons rfl (fun K hK => ?_) AllReadyH.nil
                  rw [if_pos (by rfl)]
                  go_simp
                  refine (awake36_c wy).mono ?_
                  rintro e wz ⟨rfl, hbz⟩
                  refine hK.out _ _ (hSb.trans (hbz.mono hSb.size)) (fun hSc => ?_)
                  clear hK K
                  simp only [List.getElem_toArray, List.getElem_cons_succ, List.getElem_cons_zero, Act.put, List.setIfInBounds_toArray, List.set_cons_zero, List.set_cons_succ]
                  change wpAnyH _ _ _ _ _ 2 #[true, true, true, true, true, true, true, true, true, true, true, true, true, true, true, true, true, true, true, false, false] _ _
                  refine wpAnyH_take (i := 19) (v := ?_) rfl (by kernel_rfl) (by kernel_rfl) (by kernel_rfl) (fun _ _ _ h => h) (Or.inl ⟨by rfl, ?hy⟩) hSc ?_
                  case hy => intro w' hSw; go_simp; try with_reducible rfl
                  simp only [List.getElem_toArray, List.getElem_cons_succ, List.getElem_cons_zero, Act.put, List.setIfInBounds_toArray, List.set_cons_zero, List.set_cons_succ]
                  change wpAnyH _ _ _ _ _ 1 #[true, true, true, true, true, true, true, true, true, true, true, true, true, true, true, true, true, true, true, true, false] _ _
                  refine wpAnyH_take (i := 20) (v := ?_) rfl (by kernel_rfl) (by kernel_rfl) (by kernel_rfl) (fun _ _ _ h => h) (Or.inl ⟨by rfl, ?hy⟩) hSc ?_
                  case hy => intro w' hSw; go_simp; try with_reducible rfl
                  simp only [List.getElem_toArray, List.getElem_cons_succ, List.getElem_cons_zero, Act.put, List.setIfInBounds_toArray, List.set_cons_zero, List.set_cons_succ]
                  change wpAnyH _ _ _ _ _ 0 #[true, true, true, true, true, true, true, true, true, true, true, true, true, true, true, true, true, true, true, true, true] _ _
                  refine wpAnyH_done (by kernel_rfl) ?_ _
                  go_wp2_with fail
                  go_ret
                  exact ⟨rfl, HE18.out.trans (hSc.mono HE18.out.size)⟩
end Go.Proofs.Ythpglpnonecnfaa
