/- Slices of a row of bytes; the reference's Get; what stands where in a pack's bytes. -/
import Derived.Test.YthpglpnonecnfaaPkRt
import Derived.Test.YthpglpnonecnfaaRPkC
set_option linter.unusedVariables false
set_option linter.unusedSimpArgs false
namespace Go.Proofs.Ythpglpnonecnfaa
open Go Go.RowKit Sha
def subO (o cap l : Nat) : Nat := if cap = l then o else o + l
theorem run_sub (g o len cap l h : Nat) (hl : l ≤ h) (hh : h ≤ cap) (w : World) :
    (Instr.sliceAt 27 (.slice (some ⟨g, o, none⟩) len cap) (some (.int .i64 (l : Int))) (some (.int .i64 (h : Int))) none).run Try.prog w = .ok (.slice (some ⟨g, subO o cap l, none⟩) (h - l) (cap - l)) w := by
  obtain ⟨i0, hi, hz0, hz1, hz2⟩ := info_parts u8info
  have he : Try.prog.elem 27 = 5 := by kernel_rfl
  have hu : Try.prog.underlying 27 = some (.slice (Try.prog.elem 27)) := by rw [he]; exact Try.underlying27
  rw [run_sliceAt_slice (h := hu), run_slice_lh (ht := hu) (h0 := by omega) (h1 := by omega) (h2 := by omega)]
  rw [he, run_sizeOf (w := w) hi, show Try.prog.cellsOf 5 = 1 from (by kernel_rfl)]
  simp only [Result.andThen_ok, sliced, Int.toNat_natCast, Nat.mul_one]
  unfold subO
  split
  · rfl
  · simp only [Option.map_some]; rw [add_plain]
theorem run_sub_op {g o len cap l h : Nat} (hl : l ≤ h) (hh : h ≤ cap) (E : Operand → Value) (x y z : Operand) (op : Oper) (ho : op.op = .slice 27 x (some y) (some z) none) (hx : E x = .slice (some ⟨g, o, none⟩) len cap) (hy : E y = .int .i64 (l : Int)) (hz : E z = .int .i64 (h : Int)) (w : World) :
    (execOp E op).run Try.prog w = .ok (.value (.slice (some ⟨g, subO o cap l, none⟩) (h - l) (cap - l))) w := by
  unfold execOp
  simp only [ho, Option.map_some, Option.map_none, hx, hy, hz, Sem.run_bind, run_sub g o len cap l h hl hh w, Result.andThen_ok]
  rfl
theorem wpList_sub {w : World} {ops : Array Oper} {rest : List Oper} {op : Oper} {A : Act} {Q : Exit → Act → World → Prop} (hgd : op.guard = none) {g o len cap l h : Nat} (x y z : Operand) (ho : op.op = .slice 27 x (some y) (some z) none) (hx : A.eval x = .slice (some ⟨g, o, none⟩) len cap) (hy : A.eval y = .int .i64 (l : Int)) (hz : A.eval z = .int .i64 (h : Int))
    (hl : l ≤ h) (hh : h ≤ cap) (hK : wpList Try.prog ops Q rest (A.put op.dst (.slice (some ⟨g, subO o cap l, none⟩) (h - l) (cap - l))) w) : wpList Try.prog ops Q (op :: rest) A w :=
  wpList_plain hgd fun _ hk => by
    unfold Oper.wp
    rw [run_sub_op hl hh A.eval x y z op ho hx hy hz w]
    exact hk _ _ hK
theorem BytesAt.sub {w : World} {g o cap : Nat} {l : List Nat} (h : BytesAt w (some ⟨g, o, none⟩) cap l) {lo hi : Nat} (hl : lo ≤ hi) (hh : hi ≤ l.length) : BytesAt w (some ⟨g, subO o cap lo, none⟩) (cap - lo) ((l.drop lo).take (hi - lo)) := by
  have hn : ((l.drop lo).take (hi - lo)).length = hi - lo := by rw [List.length_take, List.length_drop]; omega
  refine ⟨fun x hx => h.1 x (List.mem_of_mem_drop (List.mem_of_mem_take hx)), fun h0 => ?_⟩
  rw [hn] at h0
  obtain ⟨g', o', e1, h2, h3, h4⟩ := h.2 (by omega)
  cases e1
  have hs : subO o cap lo = o + lo := by unfold subO; rw [if_neg (by omega)]
  refine ⟨g, o + lo, by rw [hs], by rw [hn]; omega, h3, fun j hj => ?_⟩
  rw [hn] at hj
  rw [Nat.add_assoc, h4 (lo + j) (by omega), List.getD_eq_getElem?_getD, List.getD_eq_getElem?_getD, List.getElem?_take_of_lt hj, List.getElem?_drop]
def le2 (b : List Nat) (i : Nat) : Nat := leN ((b.drop i).take 2)
theorem le2_lt (b : List Nat) (i : Nat) (h : ∀ x ∈ b, x < 256) : le2 b i ≤ 65535 := by
  unfold le2
  have hm : ∀ x ∈ (b.drop i).take 2, x < 256 := fun x hx => h x (List.mem_of_mem_drop (List.mem_of_mem_take hx))
  have hl : ((b.drop i).take 2).length ≤ 2 := by rw [List.length_take]; omega
  generalize (b.drop i).take 2 = l at *
  match l, hl with
  | [], _ => simp [leN]
  | [x], _ => have := hm x (by simp); simp [leN]; omega
  | [x, y], _ => have := hm x (by simp); have := hm y (by simp); simp [leN]; omega
theorem le2_at {b P T : List Nat} {i v : Nat} (hb : b = P ++ (lowB 2 v ++ T)) (hP : P.length = i) (hv : v < 65536) : le2 b i = v := by
  unfold le2
  rw [hb, ← hP, List.drop_left, low_pair]
  show v % 256 + 256 * (v / 256 % 256 + 256 * 0) = v
  omega
def Pk (b : List Nat) (L : List (List Nat)) (R : List Int) : Prop := R.length = 16 ∧ mayP L R = true ∧ b = packBytes L R
theorem rows_split (L : List (List Nat)) (k : Nat) (h : k < L.length) : rowsB L = rowsB (L.take k) ++ (lowB 2 L[k].length ++ (L[k] ++ rowsB (L.drop (k + 1)))) := by
  conv => lhs; rw [← List.take_append_drop k L, List.drop_eq_getElem_cons h]
  unfold rowsB
  rw [List.flatMap_append, List.flatMap_cons, List.append_assoc]
theorem nums_split (R : List Int) (k : Nat) (h : k < R.length) : numsB R = numsB (R.take k) ++ (lowB 2 R[k].toNat ++ numsB (R.drop (k + 1))) := by
  conv => lhs; rw [← List.take_append_drop k R, List.drop_eq_getElem_cons h]
  unfold numsB
  rw [List.flatMap_append, List.flatMap_cons]
theorem pk_rows {b : List Nat} {L : List (List Nat)} {R : List Int} (h : Pk b L R) : ∀ l ∈ L, l.length ≤ 4096 := by
  have h2 := (may_parts h.2.1).2.1
  unfold mayB at h2
  rw [List.all_eq_true] at h2
  intro l hl
  have := h2 l hl
  simp only [decide_eq_true_eq] at this
  omega
theorem pk_n {b : List Nat} {L : List (List Nat)} {R : List Int} (h : Pk b L R) : le2 b 4 = L.length := by
  obtain ⟨h1, h2, h3⟩ := h
  refine le2_at (P := [80, 65, 67, 75]) (T := numsB R ++ rowsB L ++ sumN (packBody L R)) ?_ rfl (by have := (may_parts h2).1; omega)
  rw [h3]
  unfold packBytes
  generalize sumN (packBody L R) = S
  unfold packBody headB
  simp only [List.append_assoc]
theorem head_len (n : Nat) : (headB n).length = 6 := by unfold headB; simp [lowB_len]
theorem pk_root {b : List Nat} {L : List (List Nat)} {R : List Int} (h : Pk b L R) (k : Nat) (hk : k < 16) : (le2 b (6 + 2 * k) : Int) = R.getD k 0 := by
  obtain ⟨h1, h2, h3⟩ := h
  have hk2 : k < R.length := by omega
  have hr := (may_parts h2).2.2 R[k] (List.getElem_mem _)
  have hm : mayR L.length R = true := by unfold mayP at h2; simp only [Bool.and_eq_true] at h2; exact h2.2
  have hle : R[k] ≤ 1024 := by
    unfold mayR at hm
    rw [List.all_eq_true] at hm
    have := hm R[k] (List.getElem_mem _)
    have h5 := (may_parts h2).1
    simp only [decide_eq_true_eq] at this
    omega
  have e : le2 b (6 + 2 * k) = R[k].toNat := by
    refine le2_at (P := headB L.length ++ numsB (R.take k)) (T := numsB (R.drop (k + 1)) ++ rowsB L ++ sumN (packBody L R)) ?_ ?_ (by omega)
    · rw [h3]
      unfold packBytes
      generalize sumN (packBody L R) = S
      unfold packBody
      rw [nums_split R k hk2]
      simp only [List.append_assoc]
    · rw [List.length_append, head_len, nums_len, List.length_take]; omega
  rw [e, List.getD_eq_getElem?_getD, List.getElem?_eq_getElem hk2]
  simp only [Option.getD_some]
  omega
theorem pk_row {b : List Nat} {L : List (List Nat)} {R : List Int} (h : Pk b L R) (k : Nat) (hk : k < L.length) (i : Nat) (hi : i = 38 + (rowsB (L.take k)).length) :
    i + 2 + L[k].length ≤ b.length ∧ le2 b i = L[k].length ∧ (b.drop (i + 2)).take L[k].length = L[k] := by
  have hlk := pk_rows h L[k] (List.getElem_mem _)
  obtain ⟨h1, h2, h3⟩ := h
  have e : b = (headB L.length ++ numsB R ++ rowsB (L.take k)) ++ (lowB 2 L[k].length ++ (L[k] ++ (rowsB (L.drop (k + 1)) ++ sumN (packBody L R)))) := by
    rw [h3]
    unfold packBytes
    generalize sumN (packBody L R) = S
    unfold packBody
    rw [rows_split L k hk]
    simp only [List.append_assoc]
  have hP : (headB L.length ++ numsB R ++ rowsB (L.take k)).length = i := by rw [List.length_append, List.length_append, head_len, nums_len]; omega
  have hP2 : ((headB L.length ++ numsB R ++ rowsB (L.take k)) ++ lowB 2 L[k].length).length = i + 2 := by rw [List.length_append, hP, lowB_len]
  refine ⟨?_, le2_at e hP (by omega), ?_⟩
  · have := congrArg List.length e
    simp only [List.length_append] at this hP
    rw [lowB_len] at this
    omega
  · rw [← List.append_assoc] at e
    rw [e, ← hP2, List.drop_left, List.take_left]
theorem pk_len {b : List Nat} {L : List (List Nat)} {R : List Int} (h : Pk b L R) : 70 ≤ b.length := by
  rw [h.2.2]
  unfold packBytes
  have h3 : (packBody L R).length = 6 + (numsB R).length + (rowsB L).length := by unfold packBody headB; simp [lowB_len]; omega
  have h4 := nums_len R
  have h5 := h.1
  rw [List.length_append, sum_len]
  omega
theorem pk_one {b : List Nat} {L L' : List (List Nat)} {R R' : List Int} (h : Pk b L R) (h' : Pk b L' R') : L = L' ∧ R = R' := by
  have e := parse_back L R h.1 h.2.1
  have e' := parse_back L' R' h'.1 h'.2.1
  rw [← h.2.2] at e
  rw [← h'.2.2, e] at e'
  cases e'
  exact ⟨rfl, rfl⟩
def rootsB (b : List Nat) : List Int := (List.range 16).map fun k => (le2 b (6 + 2 * k) : Int)
theorem rootsB_len (b : List Nat) : (rootsB b).length = 16 := by simp [rootsB]
theorem rootsB_get (b : List Nat) (k : Nat) (h : k < 16) : (rootsB b).getD k 0 = (le2 b (6 + 2 * k) : Int) := by simp [rootsB, h]
theorem pk_roots {b : List Nat} {L : List (List Nat)} {R : List Int} (h : Pk b L R) : rootsB b = R := by
  apply List.ext_getElem
  · rw [rootsB_len, h.1]
  · intro k h1 h2
    have hk : k < 16 := by rw [rootsB_len] at h1; exact h1
    have e1 := rootsB_get b k hk
    rw [pk_root h k hk, List.getD_eq_getElem?_getD, List.getD_eq_getElem?_getD, List.getElem?_eq_getElem h1, List.getElem?_eq_getElem h2] at e1
    exact e1
set_option maxRecDepth 100000 in
set_option maxHeartbeats 2000000 in
theorem rget2_c (m : Nat) (hm : m = 2) (a : Option Addr) (cap : Nat) (l : List Nat) (h2 : l.length = 2) (w : World) (hb : BytesAt w a cap l) :
    Calls Try.prog 29 #[.slice a m cap] w fun e w' => e = .returned (.int .u64 (leN l : Int)) ∧ w = w' := by
  subst hm
  obtain ⟨x, y, rfl⟩ : ∃ x y, l = [x, y] := by
    match l, h2 with
    | [x, y], _ => exact ⟨x, y, rfl⟩
  obtain ⟨g, o, rfl, hcap, hg, hc⟩ := hb.2 (by simp)
  have hx : x < 256 := hb.1 x (by simp)
  have hy : y < 256 := hb.1 y (by simp)
  have cx : w.cell? ⟨g, o, none⟩ = some (.int .u8 (x : Int)) := by have := hc 0 (by simp); simpa using this
  have cy : w.cell? ⟨g, o + 1, none⟩ = some (.int .u8 (y : Int)) := by have := hc 1 (by simp); simpa using this
  have ex : IntKind.u64.wrap (x : Int) = (x : Int) := by rw [IntKind.wrap_u64]; omega
  have ey : IntKind.u64.wrap (y : Int) = (y : Int) := by rw [IntKind.wrap_u64]; omega
  have HV : Hid (leN [x, y] = x + 256 * y) := by show _ = _; simp [leN]
  have hm : (y : Int) * 256 % 18446744073709551616 = (y : Int) * 256 := by omega
  have hm1 : (x : Int) % 18446744073709551616 = (x : Int) := by omega
  have hm2 : (y : Int) % 18446744073709551616 = (y : Int) := by omega
  have hm3 : ((y : Int) * 256 + (x : Int)) % 18446744073709551616 = (y : Int) * 256 + (x : Int) := by omega
  have ew1 : IntKind.u64.wrap ((y : Int) * 256) = (y : Int) * 256 := by rw [IntKind.wrap_u64]; omega
  have ew2 : IntKind.u64.wrap ((y : Int) * 256 + (x : Int)) = (y : Int) * 256 + (x : Int) := by rw [IntKind.wrap_u64]; omega
  clear hb hcap h2 hc
  go_enter Try.func29, Try.ntmps29
  go_wp2
  go_loop [3, 4] (fun vv vi => (vv = .int .u64 0 ∧ vi = .int .i64 1) ∨ (vv = .int .u64 (y : Int) ∧ vi = .int .i64 0) ∨ (vv = .int .u64 ((y : Int) * 256 + (x : Int)) ∧ vi = .int .i64 (-1))) (fun _ vi => (intOf vi + 1).toNat)
  case atStart => exact .inl ⟨rfl, rfl⟩
  case round =>
    rcases hrel with ⟨rfl, rfl⟩ | ⟨rfl, rfl⟩ | ⟨rfl, rfl⟩
    · go_wp2
      exact ⟨.inr (.inl ⟨rfl, rfl⟩), by decide⟩
    · go_wp2
      exact ⟨.inr (.inr ⟨rfl, rfl⟩), by decide⟩
    · go_wp2
      go_ret
      exact ⟨by rw [HV.out, show ((x + 256 * y : Nat) : Int) = (y : Int) * 256 + (x : Int) by omega]; rfl, rfl⟩
end Go.Proofs.Ythpglpnonecnfaa
