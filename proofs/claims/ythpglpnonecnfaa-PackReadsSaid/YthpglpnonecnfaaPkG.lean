/- Reading fields of bytes: next, Num, Bytes, Err, Get. -/
import Derived.Test.YthpglpnonecnfaaPkF
set_option linter.unusedVariables false
set_option linter.unusedSimpArgs false
namespace Go.Proofs.Ythpglpnonecnfaa
open Go Go.RowKit Sha
/-- a row of bytes in a block below B -/
def SlB (w : World) (B : Nat) (v : Value) (l : List Nat) : Prop := ∃ a cap, v = .slice a l.length cap ∧ BytesAt w a cap l ∧ (a = none → cap = 0) ∧ l.length ≤ cap ∧ cap ≤ maxLen ∧ ∀ p, a = some p → p.block < B ∧ p.spot = none
theorem SlB.up {w w' : World} {B : Nat} {v : Value} {l : List Nat} (h : SlB w B v l) (hb : Below B w w') : SlB w' B v l := by
  obtain ⟨a, cap, h1, h2, h3, h4, h5, h6⟩ := h
  exact ⟨a, cap, h1, bytes_keep h2 (fun g o e hg => hb.block g (h6 _ e).1), h3, h4, h5, h6⟩
theorem SlB.at {w : World} {B : Nat} {v : Value} {l : List Nat} (h : SlB w B v l) : SlAt w v l := by
  obtain ⟨a, cap, h1, h2, h3, h4, h5, _⟩ := h
  exact ⟨a, cap, h1, h2, h3, h4, h5⟩
/-- a row that is read: what is left, the error -/
def RowIs (w : World) (rb : Nat) (l : List Nat) (err : Int) : Prop := ∃ v, w.heap[rb]? = some (.cells #[v, .int .i64 err] 73 (0, 0)) ∧ SlB w rb v l
def nextN (n : Nat) (l : List Nat) (err : Int) : List Nat := if err = 0 then (if l.length < n then [] else l.take n) else []
def restN (n : Nat) (l : List Nat) (err : Int) : List Nat := if err = 0 then (if l.length < n then l else l.drop n) else l
def errN (n : Nat) (l : List Nat) (err : Int) : Int := if err = 0 then (if l.length < n then 3 else 0) else err
theorem slB_nil (w : World) (B : Nat) : SlB w B (.slice none 0 0) [] := ⟨none, 0, rfl, ⟨(fun x h => by cases h), (fun h => by cases h)⟩, (fun _ => rfl), Nat.le_refl _, Nat.zero_le _, (fun p h => by cases h)⟩
theorem RowIs.set {w : World} {rb : Nat} {v v' : Value} {err err' : Int} {l l' : List Nat} (h : w.heap[rb]? = some (.cells #[v, .int .i64 err] 73 (0, 0))) {w' : World} (h' : w'.heap[rb]? = some (.cells #[v', .int .i64 err'] 73 (0, 0))) (hs : SlB w rb v' l') (hb : Below rb w w') : RowIs w' rb l' err' := ⟨v', h', hs.up hb⟩
theorem Save.cell (w : World) (m o : Nat) (v : Value) : Save m m w (w.setCell ⟨m, o, none⟩ v) := (Save.refl m m w).setCell (Nat.le_refl _) o v
set_option maxRecDepth 100000 in
set_option maxHeartbeats 2000000 in
theorem next_c (rb n : Nat) (hn : n ≤ 70000) (N : Int) (hN : N = n) (l : List Nat) (hl : l.length ≤ 1000000) (err : Int) (w : World) (h : RowIs w rb l err) :
    Calls Try.prog 38 #[.pointer (some ⟨rb, 0, none⟩), .int .i64 N] w fun e w' => (∃ v, e = .returned v ∧ SlB w' rb v (nextN n l err)) ∧ RowIs w' rb (restN n l err) (errN n l err) ∧ Save rb rb w w' := by
  subst hN
  obtain ⟨v, hblk, hsl⟩ := id h
  obtain ⟨a, cap, rfl, hb, hnil, hlc, hcm, hab⟩ := id hsl
  obtain ⟨ln, hln⟩ : ∃ ln, ln = l.length := ⟨_, rfl⟩
  rw [← hln] at hblk hlc
  have c0 := (cells_at hblk 0).trans (show _ = some (Value.slice a ln cap) from rfl)
  have c1 := (cells_at hblk 1).trans (show _ = some (Value.int .i64 err) from rfl)
  have f0 := free_at hblk 0
  have f1 := free_at hblk 1
  have HBLK := Lib.hid hblk
  have HSL : Hid (SlB w rb (.slice a ln cap) l) := by show SlB _ _ _ _; rw [hln]; exact hsl
  have HH := Lib.hid h
  by_cases he : err = 0
  · subst he
    by_cases hlt : l.length < n
    · have d1 : decide ((n : Int) > (ln : Int)) = true := by simp; omega
      have hx : ln < n := by omega
      have d0 : decide ((n : Int) < 0) = false := by simp
      have h1 : nextN n l 0 = [] := by simp [nextN, hlt]
      have h2 : restN n l 0 = l := by simp [restN, hlt]
      have h3 : errN n l 0 = 3 := by simp [errN, hlt]
      rw [h1, h2, h3]
      have nb := block_at hblk 1 (.int .i64 3)
      have NB : Hid ((w.setCell ⟨rb, 1, none⟩ (.int .i64 3)).heap[rb]? = some (.cells #[.slice a ln cap, .int .i64 3] 73 (0, 0))) := nb
      clear hblk hsl h hb hnil hlc hcm hab hlt h1 h2 h3 nb hln
      go_enter Try.func38, Try.ntmps38
      go_wp2
      go_ret
      exact ⟨⟨_, rfl, slB_nil _ _⟩, ⟨_, NB.out, HSL.out.up (Save.cell _ _ _ _).1⟩, Save.cell _ _ _ _⟩
    · have d1 : decide ((n : Int) > (ln : Int)) = false := by simp; omega
      have d0 : decide ((n : Int) < 0) = false := by simp
      have h1 : nextN n l 0 = l.take n := by simp [nextN, hlt]
      have h2 : restN n l 0 = l.drop n := by simp [restN, hlt]
      have h3 : errN n l 0 = 0 := by simp [errN, hlt]
      rw [h1, h2, h3]
      have s0 : (0 : Int) ≤ (n : Int) := by omega
      have s1 : (n : Int) ≤ (ln : Int) := by omega
      have s2 : (n : Int) ≤ (cap : Int) := by omega
      have htl : (l.take n).length = n := by simp; omega
      have hdl : (l.drop n).length = ln - n := by simp; omega
      have hb1 := hb.1
      rcases ha : a with _ | ⟨g, o, sp⟩
      · subst ha
        have hc0 := hnil rfl
        have hl0 : ln = 0 := by omega
        have hn0 : n = 0 := by omega
        subst hc0
        have hle : l = [] := List.length_eq_zero_iff.1 (by omega)
        subst hle
        simp at hln
        subst hln hn0
        have nb := block_at hblk 0 (.slice none 0 0)
        have NB : Hid ((w.setCell ⟨rb, 0, none⟩ (.slice none 0 0)).heap[rb]? = some (.cells #[.slice none 0 0, .int .i64 0] 73 (0, 0))) := nb
        clear hblk hsl h hb hnil hlc hcm hab hlt h1 h2 h3 nb htl hdl hb1
        go_enter Try.func38, Try.ntmps38
        go_wp2
        go_ret
        exact ⟨⟨_, rfl, slB_nil _ _⟩, ⟨_, NB.out, slB_nil _ _⟩, Save.cell _ _ _ _⟩
      · subst ha
        obtain ⟨hgb, hsp⟩ := hab _ rfl
        simp only at hgb hsp
        subst hsp
        have HT : Hid (SlB w rb (.slice (some ⟨g, o, none⟩) n n) (l.take n)) := by
          refine ⟨_, n, by rw [htl], ⟨fun x hx => hb1 x (List.mem_of_mem_take hx), fun h0 => ?_⟩, (fun h => by cases h), by rw [htl]; exact Nat.le_refl _, by omega, fun p hp => by cases hp; exact ⟨hgb, rfl⟩⟩
          rw [htl] at h0
          obtain ⟨g', o', e1, e2, e3, e4⟩ := hb.2 (by omega)
          cases e1
          refine ⟨g, o, rfl, by rw [htl]; exact Nat.le_refl _, e3, fun j hj => ?_⟩
          rw [htl] at hj
          rw [e4 j (by omega), List.getD_eq_getElem?_getD, List.getD_eq_getElem?_getD, List.getElem?_take_of_lt hj]
        have hdrop : ∀ q : Nat, (q = o + n ∨ ln = n) → SlB w rb (.slice (some ⟨g, q, none⟩) (ln - n) (cap - n)) (l.drop n) := by
          intro q hq
          refine ⟨_, cap - n, by rw [hdl], ⟨fun x hx => hb1 x (List.mem_of_mem_drop hx), fun h0 => ?_⟩, (fun h => by cases h), by rw [hdl]; omega, by unfold maxLen at *; omega, fun p hp => by cases hp; exact ⟨hgb, rfl⟩⟩
          rw [hdl] at h0
          obtain ⟨g', o', e1, e2, e3, e4⟩ := hb.2 (by omega)
          cases e1
          have hq2 : q = o + n := by omega
          refine ⟨g, q, rfl, by rw [hdl]; omega, e3, fun j hj => ?_⟩
          rw [hdl] at hj
          rw [hq2, Nat.add_assoc, e4 (n + j) (by omega), List.getD_eq_getElem?_getD, List.getD_eq_getElem?_getD, List.getElem?_drop]
        by_cases hcn : cap = n
        · have hd0 := hdrop o (.inr (by omega))
          rw [show cap - n = 0 by omega] at hd0
          have HD := Lib.hid hd0
          have nb := block_at hblk 0 (.slice (some ⟨g, o, none⟩) (ln - n) 0)
          have NB : Hid ((w.setCell ⟨rb, 0, none⟩ (.slice (some ⟨g, o, none⟩) (ln - n) 0)).heap[rb]? = some (.cells #[.slice (some ⟨g, o, none⟩) (ln - n) 0, .int .i64 0] 73 (0, 0))) := nb
          clear hd0
          clear hblk hsl h hb hnil hlc hcm hab hlt h1 h2 h3 nb htl hdl hb1 hdrop hln
          go_enter Try.func38, Try.ntmps38
          go_wp2
          go_ret
          exact ⟨⟨_, rfl, HT.out.up (Save.cell _ _ _ _).1⟩, ⟨_, NB.out, HD.out.up (Save.cell _ _ _ _).1⟩, Save.cell _ _ _ _⟩
        · have HD := Lib.hid (hdrop (o + n) (.inl rfl))
          have nb := block_at hblk 0 (.slice (some ⟨g, o + n, none⟩) (ln - n) (cap - n))
          have NB : Hid ((w.setCell ⟨rb, 0, none⟩ (.slice (some ⟨g, o + n, none⟩) (ln - n) (cap - n))).heap[rb]? = some (.cells #[.slice (some ⟨g, o + n, none⟩) (ln - n) (cap - n), .int .i64 0] 73 (0, 0))) := nb
          clear hblk hsl h hb hnil hlc hcm hab hlt h1 h2 h3 nb htl hdl hb1 hdrop hln
          go_enter Try.func38, Try.ntmps38
          go_wp2
          go_ret
          exact ⟨⟨_, rfl, HT.out.up (Save.cell _ _ _ _).1⟩, ⟨_, NB.out, HD.out.up (Save.cell _ _ _ _).1⟩, Save.cell _ _ _ _⟩
  · have d1 : decide (err = 0) = false := by simpa using he
    have h1 : nextN n l err = [] := by simp [nextN, he]
    have h2 : restN n l err = l := by simp [restN, he]
    have h3 : errN n l err = err := by simp [errN, he]
    rw [h1, h2, h3]
    clear hblk hsl h hb hnil hlc hcm hab h1 h2 h3 hln
    go_enter Try.func38, Try.ntmps38
    go_wp2
    go_ret
    exact ⟨⟨_, rfl, slB_nil _ _⟩, HH.out, Save.refl _ _ _⟩
set_option maxRecDepth 100000 in
theorem clone2_c (v : Value) (l : List Nat) (hl : l.length ≤ 1000000) (w : World) (h : SlAt w v l) :
    Calls Try.prog 37 #[v] w fun e w' => ∃ v', e = .returned v' ∧ w'.ownsRow w.heap.size 5 1 v' l.length (bA l).toList ∧ Below w.heap.size w w' := by
  obtain ⟨a, cap, rfl, hb, hnil, hlc, hcm⟩ := h
  rcases a with _ | ⟨g, o, sp⟩
  · have hl0 : l.length = 0 := by have := hnil rfl; omega
    have hle : l = [] := List.length_eq_zero_iff.1 hl0
    have hc0 := hnil rfl
    subst hle hc0
    clear hb hnil hlc hcm hl hl0
    show Calls _ _ #[.slice none 0 0] w _
    have hnn : ∀ w : World, (binOp .eql 27 (.slice none 0 0) (.slice none 0 0)).run Try.prog w = .ok (.bool true) w := fun w => by first | rfl | kernel_rfl | (simp [binOp, Op.equal]; done)
    go_enter Try.func37, Try.ntmps37
    go_wp2
    go_ret
    exact ⟨_, rfl, World.ownsRow_nil _ _ _ _, Below.refl _ _⟩
  · obtain ⟨n, hn⟩ : ∃ n, n = l.length := ⟨_, rfl⟩
    rw [← hn]
    have HE : Hid (l.length = n) := hn.symm
    have HN : Hid (0 + n ≤ 1000000) := by show _ ≤ _; omega
    have HOWN0 : Hid ((w.alloc (Obj.cells #[] 5)).ownsRow w.heap.size 5 1 (.slice (some ⟨w.heap.size, 0, none⟩) 0 0) 0 []) := own_none0 (Nat.le_refl _)
    have HBE0 : Hid (Below w.heap.size w (w.alloc (Obj.cells #[] 5))) := (Below.refl _ _).alloc (Nat.le_refl _) _
    have HB0 : Hid (BytesAt (w.alloc (Obj.cells #[] 5)) (some ⟨g, o, sp⟩) cap l) := hb.up HBE0.out (Nat.le_refl _)
    have hnn : ∀ w : World, (binOp .eql 27 (.slice (some ⟨g, o, sp⟩) n cap) (.slice none 0 0)).run Try.prog w = .ok (.bool false) w := fun w => by first | rfl | kernel_rfl | (simp [binOp, Op.equal]; done)
    clear hb hnil hlc hcm hl hn
    go_enter Try.func37, Try.ntmps37
    go_wp2_with (first
      | (refine wpList_append_bytes (v := .slice (some ⟨w.heap.size, 0, none⟩) 0 0) (base := w.heap.size) (n := 0) (xs := []) rfl (.tmp 5) (.tmp 6) rfl rfl HOWN0.out rfl HE.out HB0.out (fun h => by cases h) HN.out (by rw [World.size_alloc]; omega) ?_; intro v1 w1 hown1 hgrow1; have HOWN1 := Lib.hid hown1; have HBEL : Hid (Below w.heap.size w w1) := HBE0.out.grown hgrow1 (by rw [World.size_alloc]; omega) (fun q e => by simp [Value.ownBlock] at e; omega); clear hown1 hgrow1)
      | fail)
    go_ret
    have hown := HOWN1.out
    rw [Nat.zero_add, List.nil_append] at hown
    exact ⟨_, rfl, hown, HBEL.out⟩
theorem slB_own {w : World} {base B : Nat} {v : Value} {l : List Nat} (hl : ∀ x ∈ l, x < 256) (h : w.ownsRow base 5 1 v l.length (bA l).toList) (hB : w.heap.size ≤ B) : SlB w B v l := by
  obtain ⟨a, cap, rfl, hb, _, hlc, hcm, hnil, hg⟩ := own_bytes hl h
  refine ⟨a, cap, rfl, hb, hnil, hlc, hcm, fun p hp => ?_⟩
  obtain ⟨g, o, z⟩ := p
  obtain ⟨_, _, h2, _, h3⟩ := hg g o z hp
  exact ⟨Nat.lt_of_lt_of_le h3 hB, h2⟩
set_option maxRecDepth 100000 in
theorem rowof_c (v : Value) (l : List Nat) (hl : l.length ≤ 1000000) (w : World) (h : SlAt w v l) :
    Calls Try.prog 24 #[v] w fun e w' => ∃ rb, e = .returned (.pointer (some ⟨rb, 0, none⟩)) ∧ w.heap.size ≤ rb ∧ RowIs w' rb l 0 ∧ Below w.heap.size w w' := by
  have HC := Lib.hid (clone2_c v l hl w h)
  have HL : Hid (∀ x ∈ l, x < 256) := by obtain ⟨a, cap, _, hb, _⟩ := h; exact hb.1
  clear h hl
  go_enter Try.func24, Try.ntmps24
  go_wp2_with fail
  refine HC.out.mono ?_
  rintro e w1 ⟨v1, rfl, hown1, hb1⟩
  obtain ⟨a1, c1, rfl⟩ := own_slice hown1
  have HS1 := Lib.hid (slB_own HL.out hown1 (Nat.le_refl _))
  have HB1 := Lib.hid hb1
  obtain ⟨ln, hln⟩ : ∃ ln, ln = l.length := ⟨_, rfl⟩
  rw [← hln] at HS1 ⊢
  clear hown1 hb1 hln
  go_wp2
  go_ret
  have hbb : Below w1.heap.size w1 (w1.alloc (.cells #[.slice a1 ln c1, .int .i64 0] 73)) := (Below.refl _ _).alloc (Nat.le_refl _) _
  exact ⟨w1.heap.size, rfl, HB1.out.size, ⟨_, heap_new' _ _, HS1.out.up hbb⟩, HB1.out.trans (hbb.mono HB1.out.size)⟩
set_option maxRecDepth 100000 in
theorem rowerr_c (rb : Nat) (l : List Nat) (err : Int) (w : World) (h : RowIs w rb l err) :
    Calls Try.prog 27 #[.pointer (some ⟨rb, 0, none⟩)] w fun e w' => e = .returned (.int .i64 err) ∧ w = w' := by
  obtain ⟨v, hblk, hsl⟩ := id h
  have c1 := (cells_at hblk 1).trans (show _ = some (Value.int .i64 err) from rfl)
  clear hblk hsl h
  go_enter Try.func27, Try.ntmps27
  go_wp2
  go_ret
  exact ⟨rfl, rfl⟩
/-- a number of two bytes, the lowest first; of none it is 0 -/
def leN : List Nat → Nat
  | [] => 0
  | x :: xs => x + 256 * leN xs
def leP (l : List Nat) (k : Nat) : Nat := leN (l.take k)
set_option maxRecDepth 100000 in
set_option maxHeartbeats 2000000 in
theorem get_c (v : Value) (l : List Nat) (hl : l.length = 0 ∨ l.length = 2) (w : World) (h : SlAt w v l) :
    Calls Try.prog 39 #[v] w fun e w' => e = .returned (.int .u64 (leN l : Int)) ∧ w = w' := by
  obtain ⟨a, cap, rfl, hb, hnil, hlc, hcm⟩ := h
  rcases hl with h0 | h2
  · have hle : l = [] := List.length_eq_zero_iff.1 h0
    subst hle
    clear hb hnil hlc hcm h0
    show Calls _ _ #[.slice a 0 cap] w _
    go_enter Try.func39, Try.ntmps39
    go_wp2
    go_loop [3, 8] (fun vv vi => vv = .int .u64 0 ∧ vi = .int .i64 0) (fun _ _ => 0)
    case atStart => exact ⟨rfl, rfl⟩
    case round =>
      obtain ⟨rfl, rfl⟩ := hrel
      go_wp2
      go_ret
      exact ⟨rfl, rfl⟩
  · obtain ⟨x, y, rfl⟩ : ∃ x y, l = [x, y] := by
      match l, h2 with
      | [x, y], _ => exact ⟨x, y, rfl⟩
    obtain ⟨g, o, rfl, _, hg, hc⟩ := hb.2 (by simp)
    have hx : x < 256 := hb.1 x (by simp)
    have hy : y < 256 := hb.1 y (by simp)
    have cx : w.cell? ⟨g, o, none⟩ = some (.int .u8 (x : Int)) := by have := hc 0 (by simp); simpa using this
    have cy : w.cell? ⟨g, o + 1, none⟩ = some (.int .u8 (y : Int)) := by have := hc 1 (by simp); simpa using this
    have ex : IntKind.u64.wrap (x : Int) = (x : Int) := by rw [IntKind.wrap_u64]; omega
    have ey : IntKind.u64.wrap (y : Int) = (y : Int) := by rw [IntKind.wrap_u64]; omega
    have o1 : bits BinOp.or IntKind.u64 0 (x : Int) = (x : Int) := by
      have h := (u64_nat 0 x (by decide) (by omega)).2
      rw [Nat.zero_or] at h; exact h
    have o2 : bits BinOp.or IntKind.u64 (x : Int) ((y : Int) * 256) = ((x + 256 * y : Nat) : Int) := by
      have h := (u64_nat x (y * 256) (by omega) (by omega)).2
      rw [Nat.or_comm, or_byte y x hx] at h
      rw [show ((y : Int) * 256) = ((y * 256 : Nat) : Int) by omega, h]
      congr 1; omega
    have HV : Hid (leN [x, y] = x + 256 * y) := by show _ = _; simp [leN]
    have hm : (y : Int) * 256 % 18446744073709551616 = (y : Int) * 256 := by omega
    have hm1 : (x : Int) % 18446744073709551616 = (x : Int) := by omega
    clear hb hnil hlc hcm h2 hc
    show Calls _ _ #[.slice (some ⟨g, o, none⟩) 2 cap] w _
    go_enter Try.func39, Try.ntmps39
    go_wp2
    go_loop [3, 8] (fun vv vi => (vv = .int .u64 0 ∧ vi = .int .i64 0) ∨ (vv = .int .u64 (x : Int) ∧ vi = .int .i64 1) ∨ (vv = .int .u64 ((x + 256 * y : Nat) : Int) ∧ vi = .int .i64 2)) (fun _ vi => 2 - (intOf vi).toNat)
    case atStart => exact .inl ⟨rfl, rfl⟩
    case round =>
      rcases hrel with ⟨rfl, rfl⟩ | ⟨rfl, rfl⟩ | ⟨rfl, rfl⟩
      · go_wp2
        exact ⟨.inr (.inl ⟨rfl, rfl⟩), by decide⟩
      · go_wp2
        exact ⟨.inr (.inr ⟨congrArg _ (by omega), rfl⟩), by decide⟩
      · go_wp2
        go_ret
        exact ⟨by rw [HV.out]; rfl, rfl⟩
set_option maxRecDepth 100000 in
theorem rbytes_c (rb n : Nat) (hn : n ≤ 70000) (N : Int) (hN : N = n) (l : List Nat) (hl : l.length ≤ 1000000) (err : Int) (w : World) (h : RowIs w rb l err) :
    Calls Try.prog 25 #[.pointer (some ⟨rb, 0, none⟩), .int .i64 N] w fun e w' => (∃ v, e = .returned v ∧ w'.ownsRow w.heap.size 5 1 v (nextN n l err).length (bA (nextN n l err)).toList) ∧ RowIs w' rb (restN n l err) (errN n l err) ∧ Save rb rb w w' := by
  have HX := Lib.hid (next_c rb n hn N hN l hl err w h)
  have HRB : Hid (rb < w.heap.size) := by obtain ⟨v, hblk, _⟩ := h; exact lt_of_block hblk
  have HNL : Hid ((nextN n l err).length ≤ 1000000) := by show _ ≤ _; unfold nextN; split <;> (try split) <;> simp <;> omega
  clear h hN hl hn
  go_enter Try.func25, Try.ntmps25
  go_wp2_with fail
  refine HX.out.mono ?_
  rintro e w1 ⟨⟨v1, rfl, hv1⟩, hr1, hs1⟩
  have HR1 := Lib.hid hr1
  have HS1 := Lib.hid hs1
  have HC := Lib.hid (clone2_c v1 _ HNL.out w1 hv1.at)
  obtain ⟨a1, c1, rfl, _⟩ := id hv1
  clear hr1 hs1 hv1
  go_wp2_with fail
  refine HC.out.mono ?_
  rintro e w2 ⟨v2, rfl, hown2, hb2⟩
  have HO2 := Lib.hid (own_mono hown2 HS1.out.1.size)
  have HB2 := Lib.hid hb2
  clear hown2 hb2
  go_wp2
  go_ret
  have hrb1 : rb < w1.heap.size := Nat.lt_of_lt_of_le HRB.out HS1.out.1.size
  obtain ⟨v3, hblk3, hsl3⟩ := HR1.out
  exact ⟨⟨_, rfl, HO2.out⟩, ⟨v3, (HB2.out.block _ hrb1).trans hblk3, hsl3.up (HB2.out.mono (Nat.le_of_lt hrb1))⟩, HS1.out.trans (Save.of_below HB2.out (Nat.le_of_lt hrb1))⟩
theorem next_two (l : List Nat) (err : Int) : (nextN 2 l err).length = 0 ∨ (nextN 2 l err).length = 2 := by
  unfold nextN
  split
  · split
    · exact .inl rfl
    · right; simp; omega
  · exact .inl rfl
set_option maxRecDepth 100000 in
theorem rnum_c (rb : Nat) (l : List Nat) (hl : l.length ≤ 1000000) (err : Int) (w : World) (h : RowIs w rb l err) :
    Calls Try.prog 26 #[.pointer (some ⟨rb, 0, none⟩), .int .i64 2] w fun e w' => e = .returned (.int .u64 (leN (nextN 2 l err) : Int)) ∧ RowIs w' rb (restN 2 l err) (errN 2 l err) ∧ Save rb rb w w' := by
  have HX := Lib.hid (next_c rb 2 (by omega) 2 rfl l hl err w h)
  clear h hl
  go_enter Try.func26, Try.ntmps26
  go_wp2_with fail
  refine HX.out.mono ?_
  rintro e w1 ⟨⟨v1, rfl, hv1⟩, hr1, hs1⟩
  have HR1 := Lib.hid hr1
  have HS1 := Lib.hid hs1
  have HC := Lib.hid (get_c v1 _ (next_two l err) w1 hv1.at)
  obtain ⟨a1, c1, rfl, _⟩ := id hv1
  clear hr1 hs1 hv1
  go_wp2_with fail
  refine HC.out.mono ?_
  rintro e w2 ⟨rfl, rfl⟩
  go_wp2
  go_ret
  exact ⟨rfl, HR1.out, HS1.out⟩
end Go.Proofs.Ythpglpnonecnfaa
