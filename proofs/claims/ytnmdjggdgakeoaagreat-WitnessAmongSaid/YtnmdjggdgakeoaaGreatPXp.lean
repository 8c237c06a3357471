/- Lemmas for the proof. -/
import Derived.Test.YtnmdjggdgakeoaaGreatPXn
import Derived.Test.YtnmdjggdgakeoaaGreatPXo
import Derived.Test.YtnmdjggdgakeoaaGreatPXc
set_option maxRecDepth 100000
set_option maxHeartbeats 16000000
set_option linter.unusedVariables false
set_option linter.unusedSimpArgs false
set_option linter.unusedSectionVars false
namespace Go.Proofs.YtnmdjggdgakeoaaGreat
open Go Go.RowKit Sha
def SlB (w : World) (B : Nat) (v : Value) (l : List Nat) : Prop := ∃ a cap, v = .slice a l.length cap /\ BytesAt w a cap l /\ (a = none -> cap = 0) /\ l.length <= cap /\ cap <= maxLen /\ ∀ p, a = some p -> p.block < B /\ p.spot = none
theorem SlB.up {w w' : World} {B : Nat} {v : Value} {l : List Nat} (h : SlB w B v l) (hb : Below B w w') : SlB w' B v l := by
 obtain ⟨a, cap, h1, h2, h3, h4, h5, h6⟩ := h
 exact ⟨a, cap, h1, bytes_keepS h2 (fun g o e hg => hb.block g (h6 _ e).1), h3, h4, h5, h6⟩
theorem SlB.at {w : World} {B : Nat} {v : Value} {l : List Nat} (h : SlB w B v l) : SlAt w v l := by
 obtain ⟨a, cap, h1, h2, h3, h4, h5, _⟩ := h
 exact ⟨a, cap, h1, h2, h3, h4, h5⟩
def RowIs (w : World) (rb : Nat) (l : List Nat) (err : Int) : Prop := ∃ v, w.heap[rb]? = some (.cells #[v, .int .i64 err] 454 (0, 0)) /\ SlB w rb v l
def nextW (n : Nat) (l : List Nat) (err : Int) : List Nat := if err = 0 then (if l.length < n then [] else l.take n) else []
def restW (n : Nat) (l : List Nat) (err : Int) : List Nat := if err = 0 then (if l.length < n then l else l.drop n) else l
def errW (n : Nat) (l : List Nat) (err : Int) : Int := if err = 0 then (if l.length < n then 3 else 0) else err
theorem slB_nil (w : World) (B : Nat) : SlB w B (.slice none 0 0) [] := ⟨none, 0, rfl, ⟨(fun x h => by cases h), (fun h => by cases h)⟩, (fun _ => rfl), Nat.le_refl _, Nat.zero_le _, (fun p h => by cases h)⟩
theorem RowIs.set {w : World} {rb : Nat} {v v' : Value} {err err' : Int} {l l' : List Nat} (h : w.heap[rb]? = some (.cells #[v, .int .i64 err] 454 (0, 0))) {w' : World} (h' : w'.heap[rb]? = some (.cells #[v', .int .i64 err'] 454 (0, 0))) (hs : SlB w rb v' l') (hb : Below rb w w') : RowIs w' rb l' err' := ⟨v', h', hs.up hb⟩
theorem Save.cell (w : World) (m o : Nat) (v : Value) : Save m m w (w.setCell ⟨m, o, none⟩ v) := (Save.refl m m w).setCell (Nat.le_refl _) o v
theorem next_c (rb n : Nat) (hn : n <= 70000) (N : Int) (hN : N = n) (l : List Nat) (hl : l.length <= 1000000) (err : Int) (w : World) (h : RowIs w rb l err) :
  Calls Tryz.prog 358 #[.pointer (some ⟨rb, 0, none⟩), .int .i64 N] w fun e w' => (∃ v, e = .returned v /\ SlB w' rb v (nextW n l err)) /\ RowIs w' rb (restW n l err) (errW n l err) /\ Save rb rb w w' := by
 subst hN
 obtain ⟨v, hblk, hsl⟩ := id h
 obtain ⟨a, cap, rfl, hb, hnil, hlc, hcm, hab⟩ := id hsl
 obtain ⟨ln, hln⟩ : ∃ ln, ln = l.length := ⟨_, rfl⟩
 rw [<- hln] at hblk hlc;have c0 := (cells_at hblk 0).trans (show _ = some (Value.slice a ln cap) from rfl)
 have c1 := (cells_at hblk 1).trans (show _ = some (Value.int .i64 err) from rfl)
 have f0 := free_at hblk 0
 have f1 := free_at hblk 1
 have HBLK := Lib.hid hblk;have HSL : Hid (SlB w rb (.slice a ln cap) l) := by show SlB _ _ _ _; rw [hln]; exact hsl
 have HH := Lib.hid h
 by_cases he : err = 0
 ·subst he
  by_cases hlt : l.length < n
  ·have d1 : decide ((n : Int) > (ln : Int)) = true := by simp; omega
   have hx : ln < n := by omega
   have d0 : decide ((n : Int) < 0) = false := by simp
   have h1 : nextW n l 0 = [] := by simp [nextW, hlt]
   have h2 : restW n l 0 = l := by simp [restW, hlt]
   have h3 : errW n l 0 = 3 := by simp [errW, hlt]
   rw [h1, h2, h3]
   have nb := block_at hblk 1 (.int .i64 3)
   have NB : Hid ((w.setCell ⟨rb, 1, none⟩ (.int .i64 3)).heap[rb]? = some (.cells #[.slice a ln cap, .int .i64 3] 454 (0, 0))) := nb
   clear hblk hsl h hb hnil hlc hcm hab hlt h1 h2 h3 nb hln
   go_enter Tryz.func358, Tryz.ntmps358
   go_wp2
   go_ret
   exact ⟨⟨_, rfl, slB_nil _ _⟩, ⟨_, NB.out, HSL.out.up (Save.cell _ _ _ _).1⟩, Save.cell _ _ _ _⟩
  ·have d1 : decide ((n : Int) > (ln : Int)) = false := by simp; omega
   have d0 : decide ((n : Int) < 0) = false := by simp
   have h1 : nextW n l 0 = l.take n := by simp [nextW, hlt]
   have h2 : restW n l 0 = l.drop n := by simp [restW, hlt]
   have h3 : errW n l 0 = 0 := by simp [errW, hlt]
   rw [h1, h2, h3]
   have s0 : (0 : Int) <= (n : Int) := by omega
   have s1 : (n : Int) <= (ln : Int) := by omega
   have s2 : (n : Int) <= (cap : Int) := by omega
   have htl : (l.take n).length = n := by simp; omega
   have hdl : (l.drop n).length = ln - n := by simp; omega
   have hb1 := hb.1
   rcases ha : a with _ | ⟨g, o, sp⟩
   ·subst ha
    have hc0 := hnil rfl
    have hl0 : ln = 0 := by omega
    have hn0 : n = 0 := by omega
    subst hc0;have hle : l = [] := List.length_eq_zero_iff.1 (by omega)
    subst hle;simp at hln
    subst hln hn0
    have nb := block_at hblk 0 (.slice none 0 0)
    have NB : Hid ((w.setCell ⟨rb, 0, none⟩ (.slice none 0 0)).heap[rb]? = some (.cells #[.slice none 0 0, .int .i64 0] 454 (0, 0))) := nb
    clear hblk hsl h hb hnil hlc hcm hab hlt h1 h2 h3 nb htl hdl hb1
    go_enter Tryz.func358, Tryz.ntmps358
    go_wp2
    go_ret
    exact ⟨⟨_, rfl, slB_nil _ _⟩, ⟨_, NB.out, slB_nil _ _⟩, Save.cell _ _ _ _⟩
   ·subst ha
    obtain ⟨hgb, hsp⟩ := hab _ rfl
    simp only at hgb hsp
    subst hsp;have HT : Hid (SlB w rb (.slice (some ⟨g, o, none⟩) n n) (l.take n)) := by
     refine ⟨_, n, by rw [htl], ⟨fun x hx => hb1 x (List.mem_of_mem_take hx), fun h0 => ?_⟩, (fun h => by cases h), by rw [htl]; exact Nat.le_refl _, by omega, fun p hp => by cases hp; exact ⟨hgb, rfl⟩⟩
     rw [htl] at h0;obtain ⟨g', o', e1, e2, e3, e4⟩ := hb.2 (by omega)
     cases e1
     refine ⟨g, o, rfl, by rw [htl]; exact Nat.le_refl _, e3, fun j hj => ?_⟩
     rw [htl] at hj;rw [e4 j (by omega), List.getD_eq_getElem?_getD, List.getD_eq_getElem?_getD, List.getElem?_take_of_lt hj]
    have hdrop : ∀ q : Nat, (q = o + n \/ ln = n) -> SlB w rb (.slice (some ⟨g, q, none⟩) (ln - n) (cap - n)) (l.drop n) := by
     intro q hq;refine ⟨_, cap - n, by rw [hdl], ⟨fun x hx => hb1 x (List.mem_of_mem_drop hx), fun h0 => ?_⟩, (fun h => by cases h), by rw [hdl]; omega, by unfold maxLen at *; omega, fun p hp => by cases hp; exact ⟨hgb, rfl⟩⟩
     rw [hdl] at h0;obtain ⟨g', o', e1, e2, e3, e4⟩ := hb.2 (by omega)
     cases e1
     have hq2 : q = o + n := by omega
     refine ⟨g, q, rfl, by rw [hdl]; omega, e3, fun j hj => ?_⟩
     rw [hdl] at hj;rw [hq2, Nat.add_assoc, e4 (n + j) (by omega), List.getD_eq_getElem?_getD, List.getD_eq_getElem?_getD, List.getElem?_drop]
    by_cases hcn : cap = n
    ·have hd0 := hdrop o (.inr (by omega))
     rw [show cap - n = 0 by omega] at hd0
     have HD := Lib.hid hd0;have nb := block_at hblk 0 (.slice (some ⟨g, o, none⟩) (ln - n) 0)
     have NB : Hid ((w.setCell ⟨rb, 0, none⟩ (.slice (some ⟨g, o, none⟩) (ln - n) 0)).heap[rb]? = some (.cells #[.slice (some ⟨g, o, none⟩) (ln - n) 0, .int .i64 0] 454 (0, 0))) := nb
     clear hd0;clear hblk hsl h hb hnil hlc hcm hab hlt h1 h2 h3 nb htl hdl hb1 hdrop hln
     go_enter Tryz.func358, Tryz.ntmps358
     go_wp2
     go_ret
     exact ⟨⟨_, rfl, HT.out.up (Save.cell _ _ _ _).1⟩, ⟨_, NB.out, HD.out.up (Save.cell _ _ _ _).1⟩, Save.cell _ _ _ _⟩
    ·have HD := Lib.hid (hdrop (o + n) (.inl rfl))
     have nb := block_at hblk 0 (.slice (some ⟨g, o + n, none⟩) (ln - n) (cap - n))
     have NB : Hid ((w.setCell ⟨rb, 0, none⟩ (.slice (some ⟨g, o + n, none⟩) (ln - n) (cap - n))).heap[rb]? = some (.cells #[.slice (some ⟨g, o + n, none⟩) (ln - n) (cap - n), .int .i64 0] 454 (0, 0))) := nb
     clear hblk hsl h hb hnil hlc hcm hab hlt h1 h2 h3 nb htl hdl hb1 hdrop hln
     go_enter Tryz.func358, Tryz.ntmps358
     go_wp2
     go_ret
     exact ⟨⟨_, rfl, HT.out.up (Save.cell _ _ _ _).1⟩, ⟨_, NB.out, HD.out.up (Save.cell _ _ _ _).1⟩, Save.cell _ _ _ _⟩
 ·have d1 : decide (err = 0) = false := by simpa using he
  have h1 : nextW n l err = [] := by simp [nextW, he]
  have h2 : restW n l err = l := by simp [restW, he]
  have h3 : errW n l err = err := by simp [errW, he]
  rw [h1, h2, h3]
  clear hblk hsl h hb hnil hlc hcm hab h1 h2 h3 hln
  go_enter Tryz.func358, Tryz.ntmps358
  go_wp2
  go_ret
  exact ⟨⟨_, rfl, slB_nil _ _⟩, HH.out, Save.refl _ _ _⟩
theorem clone2_c (v : Value) (l : List Nat) (hl : l.length <= 1000000) (w : World) (h : SlAt w v l) :
  Calls Tryz.prog 20 #[v] w fun e w' => ∃ v', e = .returned v' /\ w'.ownsRow w.heap.size 5 1 v' l.length (bA l).toList /\ Below w.heap.size w w' := by
 obtain ⟨a, cap, rfl, hb, hnil, hlc, hcm⟩ := h
 rcases a with _ | ⟨g, o, sp⟩
 ·have hl0 : l.length = 0 := by have := hnil rfl; omega
  have hle : l = [] := List.length_eq_zero_iff.1 hl0
  have hc0 := hnil rfl
  subst hle hc0
  clear hb hnil hlc hcm hl hl0
  show Calls _ _ #[.slice none 0 0] w _
  have hnn : ∀ w : World, (binOp .eql 22 (.slice none 0 0) (.slice none 0 0)).run Tryz.prog w = .ok (.bool true) w := fun w => by first | rfl | kernel_rfl | (simp [binOp, Op.equal]; done)
  go_enter Tryz.func20, Tryz.ntmps20
  go_wp2
  go_ret
  exact ⟨_, rfl, World.ownsRow_nil _ _ _ _, Below.refl _ _⟩
 ·obtain ⟨n, hn⟩ : ∃ n, n = l.length := ⟨_, rfl⟩
  rw [<- hn];have HE : Hid (l.length = n) := hn.symm
  have HN : Hid (0 + n <= 1000000) := by show _ <= _; omega
  have HOWN0 : Hid ((w.alloc (Obj.cells #[] 5)).ownsRow w.heap.size 5 1 (.slice (some ⟨w.heap.size, 0, none⟩) 0 0) 0 []) := own_none0 (Nat.le_refl _)
  have HBE0 : Hid (Below w.heap.size w (w.alloc (Obj.cells #[] 5))) := (Below.refl _ _).alloc (Nat.le_refl _) _
  have HB0 : Hid (BytesAt (w.alloc (Obj.cells #[] 5)) (some ⟨g, o, sp⟩) cap l) := hb.up HBE0.out (Nat.le_refl _)
  have hnn : ∀ w : World, (binOp .eql 22 (.slice (some ⟨g, o, sp⟩) n cap) (.slice none 0 0)).run Tryz.prog w = .ok (.bool false) w := fun w => by first | rfl | kernel_rfl | (simp [binOp, Op.equal]; done)
  clear hb hnil hlc hcm hl hn
  go_enter Tryz.func20, Tryz.ntmps20
  go_wp2_with (first
   | (refine wpList_append_bytes (v := .slice (some ⟨w.heap.size, 0, none⟩) 0 0) (base := w.heap.size) (n := 0) (xs := []) rfl (.tmp 5) (.tmp 6) rfl rfl HOWN0.out rfl HE.out HB0.out (fun h => by cases h) HN.out (by rw [World.size_alloc]; omega) ?_; intro v1 w1 hown1 hgrow1; have HOWN1 := Lib.hid hown1; have HBEL : Hid (Below w.heap.size w w1) := HBE0.out.grown hgrow1 (by rw [World.size_alloc]; omega) (fun q e => by simp [Value.ownBlock] at e; omega); clear hown1 hgrow1)
   | fail)
  go_ret
  have hown := HOWN1.out
  rw [Nat.zero_add, List.nil_append] at hown
  exact ⟨_, rfl, hown, HBEL.out⟩
theorem slB_own {w : World} {base B : Nat} {v : Value} {l : List Nat} (hl : ∀ x ∈ l, x < 256) (h : w.ownsRow base 5 1 v l.length (bA l).toList) (hB : w.heap.size <= B) : SlB w B v l := by
 obtain ⟨a, cap, rfl, hb, _, hlc, hcm, hnil, hg⟩ := own_bytes hl h
 refine ⟨a, cap, rfl, hb, hnil, hlc, hcm, fun p hp => ?_⟩
 obtain ⟨g, o, z⟩ := p
 obtain ⟨_, _, h2, _, h3⟩ := hg g o z hp
 exact ⟨Nat.lt_of_lt_of_le h3 hB, h2⟩
theorem rowof_c (v : Value) (l : List Nat) (hl : l.length <= 1000000) (w : World) (h : SlAt w v l) :
  Calls Tryz.prog 320 #[v] w fun e w' => ∃ rb, e = .returned (.pointer (some ⟨rb, 0, none⟩)) /\ w.heap.size <= rb /\ RowIs w' rb l 0 /\ Below w.heap.size w w' := by
 have HC := Lib.hid (clone2_c v l hl w h)
 have HL : Hid (∀ x ∈ l, x < 256) := by obtain ⟨a, cap, _, hb, _⟩ := h; exact hb.1
 clear h hl
 go_enter Tryz.func320, Tryz.ntmps320
 go_wp2_with fail
 refine HC.out.mono ?_
 rintro e w1 ⟨v1, rfl, hown1, hb1⟩
 obtain ⟨a1, c1, rfl⟩ := own_slice hown1
 have HS1 := Lib.hid (slB_own HL.out hown1 (Nat.le_refl _))
 have HB1 := Lib.hid hb1;obtain ⟨ln, hln⟩ : ∃ ln, ln = l.length := ⟨_, rfl⟩
 rw [<- hln] at HS1 ⊢
 clear hown1 hb1 hln;go_wp2
 go_ret
 have hbb : Below w1.heap.size w1 (w1.alloc (.cells #[.slice a1 ln c1, .int .i64 0] 454)) := (Below.refl _ _).alloc (Nat.le_refl _) _
 exact ⟨w1.heap.size, rfl, HB1.out.size, ⟨_, heap_new' _ _, HS1.out.up hbb⟩, HB1.out.trans (hbb.mono HB1.out.size)⟩
theorem nextW_len (n : Nat) (l : List Nat) (err : Int) : (nextW n l err).length <= n := by
 unfold nextW; split <;> (try split) <;> simp <;> omega
theorem num_c (rb n : Nat) (h1 : 1 <= n) (h8 : n <= 8) (N : Int) (hN : N = n) (l : List Nat) (hl : l.length <= 1000000) (err : Int) (w : World) (h : RowIs w rb l err) :
  Calls Tryz.prog 321 #[.pointer (some ⟨rb, 0, none⟩), .int .i64 N] w fun e w' => e = .returned (.int .u64 (leN (nextW n l err) : Int)) /\ RowIs w' rb (restW n l err) (errW n l err) /\ Save rb rb w w' := by
 subst hN
 have HX := Lib.hid (next_c rb n (by omega) n rfl l hl err w h)
 have HL := Lib.hid (nextW_len n l err)
 have d1 : decide ((n : Int) < 1) = false := by simp; omega
 have d2 : decide ((n : Int) > 8) = false := by simp; omega
 have HN := Lib.hid h8;clear h hl h1 h8
 go_enter Tryz.func321, Tryz.ntmps321
 go_wp2_with fail
 refine HX.out.mono ?_
 rintro e w1 ⟨⟨v1, rfl, hv1⟩, hr1, hs1⟩
 have HR1 := Lib.hid hr1;have HS1 := Lib.hid hs1;obtain ⟨a1, c1, rfl, hb1, _⟩ := id hv1
 have HC := Lib.hid (get_c a1 _ c1 _ rfl (by have := HL.out; have := HN.out; omega) w1 hb1)
 clear hr1 hs1 hv1 hb1;go_wp2_with fail
 refine HC.out.mono ?_
 rintro e w2 ⟨rfl, rfl⟩
 go_wp2
 go_ret
 exact ⟨rfl, HR1.out, HS1.out⟩
def u64A (L : List Nat) : Array Value := (L.map u64V).toArray
theorem u64A_get (L : List Nat) (i : Nat) (h : i < L.length) : (u64A L)[i]? = some (u64V L[i]) := by simp [u64A, h]
theorem u64A_set (L : List Nat) (i x : Nat) : (u64A L).setIfInBounds i (u64V x) = u64A (L.set i x) := by
 apply Array.toList_inj.1
 simp [u64A, List.map_set]
theorem u64info : (Tryz.prog.info? 47).map (fun i => (i.zero, i.size, i.bytes)) = some (some (.int .u64 0), 1, 8) := by kernel_rfl
theorem mk_u64 (n : Nat) (hn : n <= 65536) (w : World) :
  (Instr.makeSlice 248 (.int .i64 (n : Int)) (.int .i64 (n : Int))).run Tryz.prog w = .ok (.slice (some ⟨w.heap.size, 0, none⟩) n n) (w.alloc (.cells (u64A (List.replicate n 0)) 47)) := by
 have h := run_make_row' (P := Tryz.prog) 248 47 (.int .u64 0) 8 Tryz.underlying248 u64info rfl .i64 .i64 n (by omega) (by omega) w
 rw [h];have e : madeCells #[Value.int .u64 0] n = u64A (List.replicate n 0) := by
  apply Array.toList_inj.1
  rw [toList_madeCells_one]; simp [u64A, u64V]
 rw [e]
def partU64 (L : List Nat) (k : Nat) : List Nat := L.take k ++ List.replicate (L.length - k) 0
theorem partU64_len (L : List Nat) (k : Nat) (h : k <= L.length) : (partU64 L k).length = L.length := by unfold partU64; simp; omega
theorem partU64_set (L : List Nat) (k : Nat) (h : k < L.length) : (partU64 L k).set k L[k] = partU64 L (k + 1) := by
 unfold partU64
 apply List.ext_getElem?
 intro j;rw [List.getElem?_set]
 have hl : (L.take k ++ List.replicate (L.length - k) 0).length = L.length := by simp; omega
 by_cases e : k = j
 ·subst e
  rw [if_pos rfl, hl, if_pos h, List.getElem?_append_left (by simp; omega), List.getElem?_take, if_pos (by omega), List.getElem?_eq_getElem h]
 ·rw [if_neg e]
  by_cases h2 : j < k
  ·rw [List.getElem?_append_left (by simp; omega), List.getElem?_append_left (by simp; omega), List.getElem?_take, List.getElem?_take, if_pos h2, if_pos (by omega)]
  ·rw [List.getElem?_append_right (by simp; omega), List.getElem?_append_right (by simp; omega), List.getElem?_replicate, List.getElem?_replicate, List.length_take, List.length_take, Nat.min_eq_left (by omega), Nat.min_eq_left (by omega)]
   congr 1
   simp only [eq_iff_iff]; omega
theorem partU64_all (L : List Nat) : partU64 L L.length = L := by unfold partU64; simp
theorem partU64_zero (L : List Nat) : partU64 L 0 = List.replicate L.length 0 := by unfold partU64; simp
theorem any_snoc {α : Type} (L : List α) (f : α -> Bool) (k : Nat) (p : α) (h : L[k]? = some p) (h0 : (L.take k).any f = false) (h1 : f p = false) : (L.take (k + 1)).any f = false := by
 obtain ⟨hk, rfl⟩ := List.getElem?_eq_some_iff.1 h
 rw [List.take_succ_eq_append_getElem hk, List.any_append, h0]; simp [h1]
theorem any_at {α : Type} (L : List α) (f : α -> Bool) (k : Nat) (p : α) (h : L[k]? = some p) (h1 : f p = true) : L.any f = true := by
 rw [List.any_eq_true]; exact ⟨p, List.mem_of_getElem? h, h1⟩
theorem ebad_c (a : Option Addr) (n cap : Nat) (w : World) :
  Calls Tryz.prog 319 #[.slice a n cap] w fun e w' => e = .returned (.bool (!(n == 256))) /\ w = w' := by
 by_cases h : n = 256
 ·subst h
  go_enter Tryz.func319, Tryz.ntmps319
  go_wp2
  go_ret
  exact ⟨by first | rfl | simp, rfl⟩
 ·have h1 : (n == 256) = false := by simp [h]
  have h2 : ((n : Int) == 256) = false := by simp; omega
  rw [h1]
  go_enter Tryz.func319, Tryz.ntmps319
  go_wp2
  go_ret
  exact ⟨by first | rfl | (rw [h2]; rfl) | (simp [h2]; done) | (simp; omega), rfl⟩
theorem ix_ebad_c (a : Option Addr) (n cap : Nat) (L : List (List Nat)) (hn : L.length = n) (hnm : n <= 1000000)  (w : World) (hR : RowsAt w a L) :
  Calls Tryz.prog 307 #[.slice a n cap, .func (.func 319) #[] #[]] w fun e w' => (∃ r : Int, e = .returned (.int .i64 r) /\ decide (r >= 0) = L.any (fun l => !(l.length == 256))) /\ Below w.heap.size w w' := by
 have HR := Lib.hid hR;have HN := Lib.hid hn;have HNM := Lib.hid hnm;clear hR hn hnm
 go_enter Tryz.func307, Tryz.ntmps307
 go_wp2
 go_loopw [8] (fun vi wr => ∃ k : Nat, k <= n /\ vi = .int .i64 (k : Int) /\ Hid ((L.take k).any (fun l => !(l.length == 256)) = false) /\ Hid (Below w.heap.size w wr)) (fun vi _ => n - (intOf vi).toNat)
 case atStart => exact ⟨0, by omega, rfl, rfl, Below.refl _ _⟩
 case round =>
  obtain ⟨k, hk, rfl, hall, hbel⟩ := hrel
  by_cases hlt : k < n
  ·have hd : decide ((k : Int) < (n : Int)) = true := by simp; omega
   have dl : (k : Int) < (n : Int) := by omega
   have d0 : ¬ (k : Int) < 0 := by omega
   have hkl : k < L.length := by rw [HN.out]; exact hlt
   have hget := List.getElem?_eq_getElem hkl
   obtain ⟨p, hp⟩ : ∃ p, p = L[k] := ⟨_, rfl⟩
   rw [<- hp] at hget;obtain ⟨g, o, v0, rfl, hg, hcell, hs⟩ := HR.out k p hget
   obtain ⟨a0, c0, rfl, _⟩ := hs
   have hc0 := (hbel.out.cell (p := ⟨g, o + k, none⟩) hg).trans hcell
   have HG := Lib.hid hget;have HK := Lib.hid hlt;have ek : IntKind.i64.wrap ((k : Int) + 1) = (k : Int) + 1 := by have := HNM.out; exact IntWalk.i64_in _ (by omega)
   have HB := Lib.hid (ebad_c a0 p.length c0 wr)
   clear hget hp hkl hg hcell hk hlt
   cases ht : (fun l => !(l.length == 256)) p with
   | false =>
    have HT : Hid ((L.take (k + 1)).any (fun l => !(l.length == 256)) = false) := any_snoc L _ k p HG.out hall.out ht
    simp only [] at ht
    rw [ht] at HB;obtain ⟨m9, hm9⟩ : ∃ m9, m9 = p.length := ⟨_, rfl⟩
    rw [<- hm9] at HB hc0;clear hm9;clear ht hall;go_wp2_with fail
    refine HB.out.mono ?_
    rintro e w1 ⟨rfl, rfl⟩
    have HE1 : Hid (Below w.heap.size w wr) := hbel.out
    clear hbel;go_wp2
    go_roundw
    case rel => exact ⟨k + 1, by have := HK.out; omega, by go_num, HT.out, HE1.out⟩
    case measure => simp [intOf]; have := HK.out; omega
   | true =>
    have HT : Hid (L.any (fun l => !(l.length == 256)) = true) := any_at L _ k p HG.out ht
    simp only [] at ht
    rw [ht] at HB;obtain ⟨m9, hm9⟩ : ∃ m9, m9 = p.length := ⟨_, rfl⟩
    rw [<- hm9] at HB hc0;clear hm9;clear ht hall;go_wp2_with fail
    refine HB.out.mono ?_
    rintro e w1 ⟨rfl, rfl⟩
    have HE1 : Hid (Below w.heap.size w wr) := hbel.out
    clear hbel;go_wp2
    go_ret
    exact ⟨⟨_, rfl, by rw [HT.out]; simp⟩, HE1.out⟩
  ·have hkn : k = n := by omega
   have hd : decide ((k : Int) < (n : Int)) = false := by simp; omega
   have dl : ¬ (k : Int) < (n : Int) := by omega
   have HT : Hid (L.any (fun l => !(l.length == 256)) = false) := by
    have h := hall.out
    rw [List.take_of_length_le (by rw [HN.out]; omega)] at h; exact h
   clear hall hkn hk hlt;go_wp2
   go_ret
   exact ⟨⟨_, rfl, by rw [HT.out]; decide⟩, hbel.out⟩
theorem cf_ebad_c (a : Option Addr) (n cap : Nat) (L : List (List Nat)) (hn : L.length = n) (hnm : n <= 1000000)  (w : World) (hR : RowsAt w a L) :
  Calls Tryz.prog 249 #[.slice a n cap, .func (.func 319) #[] #[]] w fun e w' => e = .returned (.bool (L.any (fun l => !(l.length == 256)))) /\ Below w.heap.size w w' := by
 have HC := Lib.hid (ix_ebad_c a n cap L hn hnm  w hR)
 clear hR hn hnm
 go_enter Tryz.func249, Tryz.ntmps249
 go_wp2_with fail
 refine HC.out.mono ?_
 rintro e w1 ⟨⟨r, rfl, hr⟩, hb1⟩
 have HE1 := Lib.hid hb1;clear hb1;go_wp2
 go_ret
 first
  | exact ⟨by rw [<- hr]; rfl, HE1.out⟩
  | (simp only [ge_iff_le] at hr; exact ⟨by rw [<- hr]; rfl, HE1.out⟩)
def epochsL (b : List Nat) (s : Nat) : List Nat := (List.range s).map fun k => leN ((b.drop (8 * k)).take 8)
theorem epochsL_len (b : List Nat) (s : Nat) : (epochsL b s).length = s := by simp [epochsL]
theorem epochsL_get (b : List Nat) (s k : Nat) (h : k < s) : (epochsL b s)[k]'(by rw [epochsL_len]; exact h) = leN ((b.drop (8 * k)).take 8) := by simp [epochsL]
def flatB (BL : List Bl) : List Nat := (BL.map (·.2)).flatten
theorem flatB_len : ∀ (BL : List Bl), (∀ x ∈ BL, x.2.length = 256) -> (flatB BL).length = 256 * BL.length
 | [], _ => rfl
 | x :: BL, h => by
  have h1 := flatB_len BL fun y hy => h y (List.mem_cons_of_mem _ hy)
  have h2 := h x List.mem_cons_self
  unfold flatB at h1 ⊢
  rw [List.map_cons, List.flatten_cons, List.length_append, h1, h2, List.length_cons]; omega
theorem epochs_hold (n : Nat) : 8 * sealedN n <= 256 * epochsN n := by unfold epochsN; omega
theorem RowIs.keep {w w' : World} {rb : Nat} {l : List Nat} {err : Int} (h : RowIs w rb l err) (hb : Below w.heap.size w w') : RowIs w' rb l err := by
 obtain ⟨v, h1, h2⟩ := h
 exact ⟨v, (hb.block rb (lt_blk h1)).trans h1, h2.up (hb.mono (Nat.le_of_lt (lt_blk h1)))⟩
theorem RowIs.far {w w' : World} {rb B : Nat} {l : List Nat} {err : Int} (h : RowIs w rb l err) (hlt : rb < B) (hb : Below B w w') : RowIs w' rb l err := by
 obtain ⟨v, h1, h2⟩ := h
 exact ⟨v, (hb.block rb hlt).trans h1, h2.up (hb.mono (Nat.le_of_lt hlt))⟩
theorem catP_flat (BL : List Bl) : catP (BL.map fun x => ((some (⟨x.1, 0, none⟩ : Addr)), 256, x.2)) = flatB BL := by
 unfold catP flatB
 rw [List.map_map]; rfl
theorem superEpochs_c {n t : Nat} (hg : geoB n t = true) (BL : List Bl) (m s : Nat) (hm : m = epochsN n) (hs : s = sealedN n) (hBL : BL.length = m) (h256 : ∀ x ∈ BL, x.2.length = 256 /\ ∀ y ∈ x.2, y < 256) (g o cap : Nat) (w : World) (hg0 : g < w.heap.size) (hP : ∀ i x, BL[i]? = some x -> w.cell? ⟨g, o + i, none⟩ = some (blV x.1)) (hrows : ∀ x ∈ BL, w.heap[x.1]? = some (.cells (bA x.2) 5 (0, 0))) :
  Calls Tryz.prog 264 #[.agg #[.int .i64 (n : Int), .int .i64 (t : Int)], .slice (some ⟨g, o, none⟩) m cap] w fun r w' => ∃ q, r = .returned (.tuple #[.slice (some ⟨q, 0, none⟩) s s, .int .i64 0]) /\ w.heap.size <= q /\ w'.heap[q]? = some (.cells (u64A (epochsL (flatB BL) s)) 47 (0, 0)) /\ Below w.heap.size w w' := by
 have hgo := geo_ok hg
 have hs4 : s <= 69 /\ m <= 3 /\ 1 <= m /\ 8 * s <= 256 * m := by
  have h1 := sealedN_le n hgo.2.1
  rw [hm, hs]
  refine ⟨by omega, ?_, ?_, epochs_hold n⟩
  ·unfold epochsN; omega
  ·unfold epochsN sealedN; omega
 have HE := Lib.hid (fun w => gcheck_c n t w)
 rw [geoE_ok hg] at HE
 have HA := Lib.hid (fun w => gEpochs_c hg w)
 rw [<- hm] at HA;have hif : ifGeo n t (sealedN (n : Int).toNat) = s := by unfold ifGeo; rw [if_pos hg, Int.toNat_natCast, hs]
 have HS := Lib.hid (fun w => gSealed_c n t w)
 rw [hif] at HS;have hBA : ∀ x ∈ BL, BytesAt w (some ⟨x.1, 0, none⟩) 256 x.2 := fun x hx => by
  have h := bytesAt_block (h256 x hx).2 (hrows x hx)
  rw [(h256 x hx).1] at h; exact h
 have hFL := flatB_len BL fun x hx => (h256 x hx).1
 have hF256 : ∀ x ∈ flatB BL, x < 256 := fun x hx => by
  obtain ⟨l, hl, hxl⟩ := List.mem_flatten.1 hx
  obtain ⟨y, hy, rfl⟩ := List.mem_map.1 hl
  exact (h256 y hy).2 x hxl
 have hRA : RowsAt w (some ⟨g, o, none⟩) (BL.map (·.2)) := fun i l hi => by
  rw [List.getElem?_map] at hi
  obtain ⟨x, hx, rfl⟩ := Option.map_eq_some_iff.1 hi
  have hx2 := List.mem_of_getElem? hx
  refine ⟨g, o, blV x.1, rfl, hg0, hP i x hx, some ⟨x.1, 0, none⟩, 256, ?_, hBA x hx2, (fun e => by cases e), by rw [(h256 x hx2).1]; exact Nat.le_refl _, by decide⟩
  rw [(h256 x hx2).1]; rfl
 have hany : ((BL.map (·.2)).any fun l => !(l.length == 256)) = false := by
  rw [List.any_eq_false];intro l hl;obtain ⟨x, hx, rfl⟩ := List.mem_map.1 hl
  simp [(h256 x hx).1]
 have HCF := Lib.hid (fun w1 (hb : Below w.heap.size w w1) => cf_ebad_c (some ⟨g, o, none⟩) m cap (BL.map (·.2)) (by rw [List.length_map, hBL]) (by omega) w1 (fun i l hi => by obtain ⟨g1, o1, v1, e1, e2, e3, e4⟩ := hRA i l hi; exact ⟨g1, o1, v1, e1, Nat.lt_of_lt_of_le e2 hb.size, (hb.cell (p := ⟨g1, o1 + i, none⟩) e2).trans e3, e4.up hb (Nat.le_refl _)⟩))
 rw [hany] at HCF;obtain ⟨PP, hPP⟩ : ∃ PP : Parts, PP = BL.map fun x => ((some (⟨x.1, 0, none⟩ : Addr)), 256, x.2) := ⟨_, rfl⟩
 have hPi : PartsIn w g o PP := ⟨hg0, fun k s hs => by
  rw [hPP, List.getElem?_map] at hs
  obtain ⟨x, hx, rfl⟩ := Option.map_eq_some_iff.1 hs
  have hx2 := List.mem_of_getElem? hx
  refine ⟨?_, hBA x hx2, by show 0 < x.2.length; rw [(h256 x hx2).1]; decide⟩
  show _ = some (Value.slice (some ⟨x.1, 0, none⟩) x.2.length 256)
  rw [hP k x hx, (h256 x hx2).1]; rfl⟩
 have hPl : PP.length = m := by rw [hPP, List.length_map, hBL]
 have hcat : catP PP = flatB BL := by rw [hPP]; exact catP_flat BL
 have HCC := Lib.hid (fun w1 (hb : Below w.heap.size w w1) => concatP_c PP g o cap w1 (hPi.up hb (Nat.le_refl _)) (by rw [hcat, hFL]; omega) (by rw [hcat, hFL]; omega) (by rw [hPl]; omega))
 rw [hPl, hcat, hFL, hBL] at HCC
 obtain ⟨b, hb⟩ : ∃ b, b = flatB BL := ⟨_, rfl⟩
 rw [<- hb] at HCC hF256 hFL;obtain ⟨EL, hEL⟩ : ∃ EL, EL = epochsL b s := ⟨_, rfl⟩
 rw [<- hb, <- hEL]
 have HB : Hid (b.length = 256 * m /\ ∀ x ∈ b, x < 256) := ⟨by rw [hFL, hBL], hF256⟩
 have HEL := Lib.hid hEL;have HN := Lib.hid hs4;have HX := Lib.hid (heap_new' w (.cells #[.int .i64 (n : Int), .int .i64 (t : Int)] 44))
 clear hg hgo hs4 hm hs hBL h256 hg0 hP hrows hif hBA hFL hF256 hRA hany hPP hPi hPl hcat hb hEL
 go_enter Tryz.func264, Tryz.ntmps264
 go_wp2_with (first | (refine wpList_load_row rfl 44 (.tmp 2) rfl w.heap.size rfl _ _ _ _ HX.out Tryz.underlying44 rfl (by rw [geo2]; rfl) ?_) | fail)
 refine (HE.out _).mono ?_
 rintro r w1 ⟨rfl, hb1⟩
 have HC1 := Lib.hid ((hb1.block w.heap.size (by simp)).trans HX.out)
 have HB1 : Hid (Below w.heap.size w w1) := (below_box w _).trans (hb1.mono (by simp))
 clear hb1 HX HE;go_wp2_with (first | (refine wpList_load_rowG (by rfl) 44 (.tmp 2) rfl w.heap.size rfl _ _ _ _ HC1.out Tryz.underlying44 rfl (by rw [geo2]; rfl) ?_) | fail)
 refine (HA.out _).mono ?_
 rintro r w2 ⟨rfl, hb2⟩
 have HC2 := Lib.hid ((hb2.block w.heap.size (lt_blk HC1.out)).trans HC1.out)
 have HB2 : Hid (Below w.heap.size w w2) := HB1.out.trans (hb2.mono HB1.out.size)
 clear hb2 HA;go_wp2_with fail
 refine (HCF.out _ HB2.out).mono ?_
 rintro r w3 ⟨rfl, hb3⟩
 have HC3 := Lib.hid ((hb3.block w.heap.size (lt_blk HC2.out)).trans HC2.out)
 have HB3 : Hid (Below w.heap.size w w3) := HB2.out.trans (hb3.mono HB2.out.size)
 clear hb3 HCF;go_wp2_with fail
 refine (HCC.out _ HB3.out).mono ?_
 rintro r w4 ⟨v4, rfl, hown4, hb4⟩
 have HC4 := Lib.hid ((hb4.block w.heap.size (lt_blk HC3.out)).trans HC3.out)
 have HB4 : Hid (Below w.heap.size w w4) := HB3.out.trans (hb4.mono HB3.out.size)
 have hsl4 : SlAt w4 v4 b := (slB_own (B := w4.heap.size) HB.out.2 (by rw [HB.out.1]; exact hown4) (Nat.le_refl _)).at
 have HRO := Lib.hid (rowof_c v4 b (by have := HB.out.1; have := HN.out; omega) w4 hsl4)
 clear hb4 hown4 hsl4 HCC;go_wp2_with fail
 refine HRO.out.mono ?_
 rintro r w5 ⟨rb, rfl, hrb, hrow, hb5⟩
 have HC5 := Lib.hid ((hb5.block w.heap.size (lt_blk HC4.out)).trans HC4.out)
 have HB5 : Hid (Below w.heap.size w w5) := HB4.out.trans (hb5.mono HB4.out.size)
 have HRB : Hid (w.heap.size <= rb) := Nat.le_trans HB4.out.size hrb
 have HROW := Lib.hid hrow;clear hb5 hrow hrb HRO;go_wp2_with (first | (refine wpList_load_row rfl 44 (.tmp 2) rfl w.heap.size rfl _ _ _ _ HC5.out Tryz.underlying44 rfl (by rw [geo2]; rfl) ?_) | (refine wpList_load_rowG (by rfl) 44 (.tmp 2) rfl w.heap.size rfl _ _ _ _ HC5.out Tryz.underlying44 rfl (by rw [geo2]; rfl) ?_) | fail)
 refine (HS.out _).mono ?_
 rintro r w6 ⟨rfl, hb6⟩
 have HB6 : Hid (Below w.heap.size w w6) := HB5.out.trans (hb6.mono HB5.out.size)
 have HROW6 := Lib.hid (HROW.out.keep hb6)
 have hmk := mk_u64 s (by have := HN.out; omega)
 have HRB6 : Hid (rb < w6.heap.size) := lt_blk HROW6.out.choose_spec.1
 obtain ⟨w7, hw7⟩ : ∃ w7, w7 = w6.alloc (.cells (u64A (List.replicate s 0)) 47) := ⟨_, rfl⟩
 have HB7 : Hid (Below w.heap.size w w7) := by rw [hw7]; exact HB6.out.trans ((below_box w6 _).mono HB6.out.size)
 have HROW7 : Hid (RowIs w7 rb b 0) := by rw [hw7]; exact HROW6.out.keep (below_box w6 _)
 have HQ7 : Hid (w7.heap[w6.heap.size]? = some (.cells (u64A (partU64 EL 0)) 47 (0, 0))) := by
  rw [hw7, partU64_zero, HEL.out, epochsL_len]; exact heap_new' _ _
 have HELN : Hid (EL.length = s) := by rw [HEL.out, epochsL_len]; exact rfl
 clear hb6 HS HROW HC1 HC2 HC3 HC4 HC5;go_wp2_with fail
 rw [<- hw7];clear hw7 hmk HROW6
 go_loopw [34] (fun v34 wr => ∃ k : Nat, k <= s /\ v34 = .int .i64 (k : Int) /\ Hid (Below w.heap.size w wr) /\ Hid (RowIs wr rb (b.drop (8 * k)) 0) /\ Hid (wr.heap[w6.heap.size]? = some (.cells (u64A (partU64 EL k)) 47 (0, 0)))) (fun v34 _ => s - (intOf v34).toNat)
 case atStart => exact ⟨0, Nat.zero_le _, rfl, HB7, HROW7, HQ7⟩
 case round =>
  obtain ⟨k, hk, rfl, hbr, hrr, hqr⟩ := hrel
  by_cases hlt : k < s
  ·have dl : (k : Int) < (s : Int) := by omega
   have d0 : ¬ (k : Int) < 0 := by omega
   have ek : IntKind.i64.wrap ((k : Int) + 1) = (k : Int) + 1 := by have := HN.out; exact IntWalk.i64_in _ (by omega)
   have hl8 : 8 <= (b.drop (8 * k)).length := by rw [List.length_drop, HB.out.1]; have := HN.out; omega
   have hnum := num_c rb 8 (by omega) (by omega) 8 rfl (b.drop (8 * k)) (by rw [List.length_drop, HB.out.1]; have := HN.out; omega) 0 wr hrr.out
   have e1 : nextW 8 (b.drop (8 * k)) 0 = (b.drop (8 * k)).take 8 := by unfold nextW; rw [if_pos rfl, if_neg (by omega)]
   have e2 : restW 8 (b.drop (8 * k)) 0 = b.drop (8 * (k + 1)) := by unfold restW; rw [if_pos rfl, if_neg (by omega), List.drop_drop]; rfl
   have e3 : errW 8 (b.drop (8 * k)) 0 = 0 := by unfold errW; rw [if_pos rfl, if_neg (by omega)]
   have hkl : k < EL.length := by rw [HELN.out]; exact hlt
   have e4 : leN ((b.drop (8 * k)).take 8) = EL[k] := by
    have := HEL.out
    subst this;exact (epochsL_get b s k hlt).symm
   rw [e1, e2, e3, e4] at hnum
   obtain ⟨x, hx⟩ : ∃ x, x = EL[k] := ⟨_, rfl⟩
   rw [<- hx] at hnum;have HX : Hid (∀ w1 : World, w1.heap[w6.heap.size]? = some (.cells (u64A (partU64 EL k)) 47 (0, 0)) -> (w1.setCell ⟨w6.heap.size, k, none⟩ (.int .u64 (x : Int))).heap[w6.heap.size]? = some (.cells (u64A (partU64 EL (k + 1))) 47 (0, 0))) := Lib.hid (fun w1 h1 => by
    have h2 := block_at h1 k (u64V x)
    rw [u64A_set, hx, partU64_set EL k hkl] at h2
    rw [hx]; exact h2)
   have HKL : Hid (k < s) := hlt
   have HNUM := Lib.hid hnum;have HBR := Lib.hid hbr.out;have HQR := Lib.hid hqr.out;clear hnum hbr hrr hqr hl8 e1 e2 e3 e4 hx hkl hk;go_wp2_with fail
   refine HNUM.out.mono ?_
   rintro r w8 ⟨rfl, hr8, hs8⟩
   have HR8 := Lib.hid hr8;have hb8 : Below w.heap.size w w8 := HBR.out.trans (hs8.1.mono HRB.out)
   have hq8 : w8.heap[w6.heap.size]? = some (.cells (u64A (partU64 EL k)) 47 (0, 0)) := by
    rw [hs8.2 _ (lt_blk HQR.out) (by have := HRB6.out; omega)]; exact HQR.out
   have hlen8 : k < (partU64 EL k).length := by rw [partU64_len EL k (by have := HELN.out; omega), HELN.out]; exact hlt
   have cq : w8.cell? ⟨w6.heap.size, k, none⟩ = some (u64V (partU64 EL k)[k]) := by rw [cells_at hq8 k, u64A_get _ _ hlen8]
   have fq : w8.frozen? ⟨w6.heap.size, k, none⟩ = false := free_at hq8 k
   generalize u64V (partU64 EL k)[k] = y at cq
   have HQ8 := Lib.hid hq8;have HB8 := Lib.hid hb8;clear hs8 hr8 hb8 hq8 hlen8 HNUM HQR HBR;go_wp2
   go_roundw
   case rel =>
    refine ⟨k + 1, by have := HKL.out; omega, by go_num, Below.setCell HB8.out (p := ⟨w6.heap.size, k, none⟩) HB6.out.size _, ?_, HX.out _ HQ8.out⟩
    exact HR8.out.far HRB6.out (Below.setCell (Below.refl _ _) (p := ⟨w6.heap.size, k, none⟩) (Nat.le_refl _) _)
   case measure => simp [intOf]; have := HKL.out; omega
  ·have dl : ¬ (k : Int) < (s : Int) := by omega
   have hks : k = s := by omega
   have hq := hqr.out
   rw [hks, <- HELN.out, partU64_all] at hq
   have HQ := Lib.hid hq;have HBR := Lib.hid hbr.out;clear hks hq hbr hrr hqr hlt hk;go_wp2
   go_ret2
   exact ⟨_, rfl, HB6.out.size, HQ.out, HBR.out⟩
theorem load_fgeo {w : World} {f : Nat} {X : BaseR} {kd : Int} {bv : Value} {rest : Array Value} (h : w.heap[f]? = some (.cells (foundA X kd bv rest) 251 (0, 0))) : (loadVar 44 ⟨f, 4, none⟩).run Tryz.prog w = .ok (.agg #[.int .i64 (X.n : Int), .int .i64 (X.x : Int)]) w :=
 run_loadVar_mid (P := Tryz.prog) w f 4 44 [.int .i64 (X.n : Int), .int .i64 (X.x : Int)] _ (fun j v hv => by
  rw [cells_at h (4 + j)]
  rcases j with _ | _ | j
  ·rw [foundA_base _ _ _ _ _ (by omega)]; exact hv
  ·rw [foundA_base _ _ _ _ _ (by omega)]; exact hv
  ·simp at hv) Tryz.underlying44 rfl (by rw [geo2]; rfl)
def opsPla : {o : Array Oper // some o = (Tryz.f206.body.bind (Fre.findR 9))} := ⟨_, rfl⟩
theorem fitPla : Fre.fit .any opsPla.1 68 = true := by kernel_rfl
theorem sizePla : opsPla.1.size = 18 := by kernel_rfl
def VPla (f nb cp la m s B : Nat) (EB : List Bl) (X : BaseR) (kd : Int) (rest : Array Value) (i : Nat) (v : Value) (w : World) : Prop := match i with
 | 0 => v = .pointer (some ⟨f, 0, none⟩)
 | 1 => v = .pointer (some ⟨f, 0, none⟩)
 | 2 => v = .pointer (some ⟨f, 0, none⟩)
 | 3 => v = .pointer (some ⟨f, 4, none⟩)
 | 4 => v = .agg #[.int .i64 (X.n : Int), .int .i64 (X.x : Int)]
 | 5 => v = .pointer (some ⟨f, 0, none⟩)
 | 6 => v = .pointer (some ⟨f, 0, none⟩)
 | 7 => v = .pointer (some ⟨f, 7, none⟩)
 | 8 => v = .slice (some ⟨la, 0, none⟩) nb cp
 | 9 => v = .int .i64 (m : Int)
 | 10 => v = .int .i64 (1 + (m : Int))
 | 11 => v = .slice (some ⟨la, 1, none⟩) m (cp - 1)
 | 12 => ∃ q, v = .tuple #[.slice (some ⟨q, 0, none⟩) s s, .int .i64 0] /\ B <= q /\ w.heap[q]? = some (.cells (u64A (epochsL (flatB EB) s)) 47 (0, 0))
 | 13 => ∃ q, v = .tuple #[.slice (some ⟨q, 0, none⟩) s s, .int .i64 0] /\ B <= q /\ w.heap[q]? = some (.cells (u64A (epochsL (flatB EB) s)) 47 (0, 0))
 | 14 => ∃ q, v = .slice (some ⟨q, 0, none⟩) s s /\ B <= q /\ w.heap[q]? = some (.cells (u64A (epochsL (flatB EB) s)) 47 (0, 0))
 | 15 => v = .int .i64 0
 | 16 => ∃ q, v = .slice (some ⟨q, 0, none⟩) s s /\ B <= q /\ w.heap[q]? = some (.cells (u64A (epochsL (flatB EB) s)) 47 (0, 0))
 | 17 => v = .int .i64 0
 | _ => True
section
variable {u1 u2 u3 u4 u5 u6 u7 u8 u10 u11 u12 u13 u14 u15 u16 u17 u18 u19 u20 u21 u22 u23 u24 u25 u26 u27 u28 u29 u30 u31 u32 u33 u34 u35 u36 u37 u38 u39 u40 u41 u42 u43 u44 u45 u46 u47 u48 u49 u50 u51 u52 u53 u54 u55 u56 u57 u58 u59 u60 u61 u62 u63 u64 u65 u66 u67 : Value}
theorem kpPla (f nb cp la m s B : Nat) (EB : List Bl) (X : BaseR) (kd : Int) (rest : Array Value) : ∀ j v w w', j < opsPla.1.size -> VPla f nb cp la m s B EB X kd rest j v w -> Fre.Kept w w' -> VPla f nb cp la m s B EB X kd rest j v w' := by
 intro j v w w' hj h hs
 rw [sizePla] at hj;rcases cs18 hj with rfl | rfl | rfl | rfl | rfl | rfl | rfl | rfl | rfl | rfl | rfl | rfl | rfl | rfl | rfl | rfl | rfl | rfl
 any_goals exact h
 ·change ∃ q, v = .tuple #[.slice (some ⟨q, 0, none⟩) s s, .int .i64 0] /\ B <= q /\ w.heap[q]? = some (.cells (u64A (epochsL (flatB EB) s)) 47 (0, 0)) at h
  obtain ⟨q, h1, h2, h3⟩ := h
  exact ⟨q, h1, h2, (hs.block _ (lt_blk h3)).trans h3⟩
 ·change ∃ q, v = .tuple #[.slice (some ⟨q, 0, none⟩) s s, .int .i64 0] /\ B <= q /\ w.heap[q]? = some (.cells (u64A (epochsL (flatB EB) s)) 47 (0, 0)) at h
  obtain ⟨q, h1, h2, h3⟩ := h
  exact ⟨q, h1, h2, (hs.block _ (lt_blk h3)).trans h3⟩
 ·change ∃ q, v = .slice (some ⟨q, 0, none⟩) s s /\ B <= q /\ w.heap[q]? = some (.cells (u64A (epochsL (flatB EB) s)) 47 (0, 0)) at h
  obtain ⟨q, h1, h2, h3⟩ := h
  exact ⟨q, h1, h2, (hs.block _ (lt_blk h3)).trans h3⟩
 ·change ∃ q, v = .slice (some ⟨q, 0, none⟩) s s /\ B <= q /\ w.heap[q]? = some (.cells (u64A (epochsL (flatB EB) s)) 47 (0, 0)) at h
  obtain ⟨q, h1, h2, h3⟩ := h
  exact ⟨q, h1, h2, (hs.block _ (lt_blk h3)).trans h3⟩
variable {f nb cp la m s B : Nat} {EB : List Bl} {X : BaseR} {kd : Int} {rest : Array Value} {a0 : Act} {w0 : World} (h0 : w0.heap[f]? = some (.cells (foundA X kd (.slice (some ⟨la, 0, none⟩) nb cp) rest) 251 (0, 0))) (hge : geoB X.n X.x = true) (hm : m = epochsN X.n) (hs : s = sealedN X.n) (hEB : EB.length = m) (h256 : ∀ x ∈ EB, x.2.length = 256 /\ ∀ y ∈ x.2, y < 256) (hla : la < w0.heap.size) (hP : ∀ i x, EB[i]? = some x -> w0.cell? ⟨la, 1 + i, none⟩ = some (blV x.1)) (hrows : ∀ x ∈ EB, w0.heap[x.1]? = some (.cells (bA x.2) 5 (0, 0))) (hcp : 1 + m < cp) (hm9 : m <= 100) (hB : B <= w0.heap.size)
include h0 hge hm hs hEB h256 hla hP hrows hcp hm9 hB
theorem stPla_0 (g90 : a0.tmps.getD 0 undef = .pointer (some ⟨f, 0, none⟩)) : Fre.StepB Tryz.prog opsPla.1 a0 w0 (VPla f nb cp la m s B EB X kd rest) Fre.Kept 0 := by
 rintro E w hc hf hE hV hN hS _ ⟨⟩
 simp only [opsPla, gA, gS, gZ]
 have b0 : E (.tmp 0) = .pointer (some ⟨f, 0, none⟩) := (hE 0 (by kernel_rfl)).trans g90
 clear g90;refine Fre.dv (v := .pointer (some ⟨f, 0, none⟩)) ?_
 go_simp
theorem stPla_1 : Fre.StepB Tryz.prog opsPla.1 a0 w0 (VPla f nb cp la m s B EB X kd rest) Fre.Kept 1 := by
 rintro E w hc hf hE hV hN hS _ ⟨⟩
 simp only [opsPla, gA, gS, gZ]
 have d0 : E (.tmp 51) = .pointer (some ⟨f, 0, none⟩) := hV 0 51 (by kernel_rfl) (by kernel_rfl)
 refine Fre.dv (v := .pointer (some ⟨f, 0, none⟩)) ?_
 go_simp
theorem stPla_2 : Fre.StepB Tryz.prog opsPla.1 a0 w0 (VPla f nb cp la m s B EB X kd rest) Fre.Kept 2 := by
 rintro E w hc hf hE hV hN hS _ ⟨⟩
 simp only [opsPla, gA, gS, gZ]
 have d1 : E (.tmp 52) = .pointer (some ⟨f, 0, none⟩) := hV 1 52 (by kernel_rfl) (by kernel_rfl)
 refine Fre.dv (v := .pointer (some ⟨f, 0, none⟩)) ?_
 go_simp
theorem stPla_3 : Fre.StepB Tryz.prog opsPla.1 a0 w0 (VPla f nb cp la m s B EB X kd rest) Fre.Kept 3 := by
 rintro E w hc hf hE hV hN hS _ ⟨⟩
 simp only [opsPla, gA, gS, gZ]
 have d2 : E (.tmp 53) = .pointer (some ⟨f, 0, none⟩) := hV 2 53 (by kernel_rfl) (by kernel_rfl)
 refine Fre.dv (v := .pointer (some ⟨f, 4, none⟩)) ?_
 go_simp
theorem stPla_4 : Fre.StepB Tryz.prog opsPla.1 a0 w0 (VPla f nb cp la m s B EB X kd rest) Fre.Kept 4 := by
 rintro E w hc hf hE hV hN hS _ ⟨⟩
 simp only [opsPla, gA, gS, gZ]
 have d3 : E (.tmp 54) = .pointer (some ⟨f, 4, none⟩) := hV 3 54 (by kernel_rfl) (by kernel_rfl)
 have hr := load_fgeo ((hS.block f (lt_blk h0)).trans h0)
 refine Fre.dv (v := .agg #[.int .i64 (X.n : Int), .int .i64 (X.x : Int)]) ?_
 unfold execOp;simp only [d3, Instr.loadAt, Instr.sureAddr, Sem.run_bind, Sem.run_pure, Result.andThen_ok, hr]
theorem stPla_5 (g90 : a0.tmps.getD 0 undef = .pointer (some ⟨f, 0, none⟩)) : Fre.StepB Tryz.prog opsPla.1 a0 w0 (VPla f nb cp la m s B EB X kd rest) Fre.Kept 5 := by
 rintro E w hc hf hE hV hN hS _ ⟨⟩
 simp only [opsPla, gA, gS, gZ]
 have b0 : E (.tmp 0) = .pointer (some ⟨f, 0, none⟩) := (hE 0 (by kernel_rfl)).trans g90
 clear g90;refine Fre.dv (v := .pointer (some ⟨f, 0, none⟩)) ?_
 go_simp
theorem stPla_6 : Fre.StepB Tryz.prog opsPla.1 a0 w0 (VPla f nb cp la m s B EB X kd rest) Fre.Kept 6 := by
 rintro E w hc hf hE hV hN hS _ ⟨⟩
 simp only [opsPla, gA, gS, gZ]
 have d5 : E (.tmp 56) = .pointer (some ⟨f, 0, none⟩) := hV 5 56 (by kernel_rfl) (by kernel_rfl)
 refine Fre.dv (v := .pointer (some ⟨f, 0, none⟩)) ?_
 go_simp
theorem stPla_7 : Fre.StepB Tryz.prog opsPla.1 a0 w0 (VPla f nb cp la m s B EB X kd rest) Fre.Kept 7 := by
 rintro E w hc hf hE hV hN hS _ ⟨⟩
 simp only [opsPla, gA, gS, gZ]
 have d6 : E (.tmp 57) = .pointer (some ⟨f, 0, none⟩) := hV 6 57 (by kernel_rfl) (by kernel_rfl)
 refine Fre.dv (v := .pointer (some ⟨f, 7, none⟩)) ?_
 go_simp
theorem stPla_8 : Fre.StepB Tryz.prog opsPla.1 a0 w0 (VPla f nb cp la m s B EB X kd rest) Fre.Kept 8 := by
 rintro E w hc hf hE hV hN hS _ ⟨⟩
 simp only [opsPla, gA, gS, gZ]
 have d7 : E (.tmp 58) = .pointer (some ⟨f, 7, none⟩) := hV 7 58 (by kernel_rfl) (by kernel_rfl)
 have c7 : w.cell? ⟨f, 7, none⟩ = some (.slice (some ⟨la, 0, none⟩) nb cp) := by rw [cells_at ((hS.block f (lt_blk h0)).trans h0) 7, foundA_bv]
 refine Fre.dv (v := .slice (some ⟨la, 0, none⟩) nb cp) ?_
 go_simp
theorem stPla_9 (g99 : a0.tmps.getD 9 undef = .int .i64 (m : Int)) : Fre.StepB Tryz.prog opsPla.1 a0 w0 (VPla f nb cp la m s B EB X kd rest) Fre.Kept 9 := by
 rintro E w hc hf hE hV hN hS _ ⟨⟩
 simp only [opsPla, gA, gS, gZ]
 have b9 : E (.tmp 9) = .int .i64 (m : Int) := (hE 9 (by kernel_rfl)).trans g99
 clear g99;refine Fre.dv (v := .int .i64 (m : Int)) ?_
 go_simp
theorem stPla_10 : Fre.StepB Tryz.prog opsPla.1 a0 w0 (VPla f nb cp la m s B EB X kd rest) Fre.Kept 10 := by
 rintro E w hc hf hE hV hN hS _ ⟨⟩
 simp only [opsPla, gA, gS, gZ]
 have d9 : E (.tmp 60) = .int .i64 (m : Int) := hV 9 60 (by kernel_rfl) (by kernel_rfl)
 have e9 : IntKind.i64.wrap (1 + (m : Int)) = 1 + (m : Int) := IntWalk.i64_in _ (by omega)
 clear hEB h256 hm hs hP hrows;refine Fre.dv (v := .int .i64 (1 + (m : Int))) ?_
 go_simp
theorem stPla_11 : Fre.StepB Tryz.prog opsPla.1 a0 w0 (VPla f nb cp la m s B EB X kd rest) Fre.Kept 11 := by
 rintro E w hc hf hE hV hN hS _ ⟨⟩
 simp only [opsPla, gA, gS, gZ]
 have d8 : E (.tmp 59) = .slice (some ⟨la, 0, none⟩) nb cp := hV 8 59 (by kernel_rfl) (by kernel_rfl)
 have d10 : E (.tmp 61) = .int .i64 (1 + (m : Int)) := hV 10 61 (by kernel_rfl) (by kernel_rfl)
 have hr := blRT.run_subB (P := Tryz.prog) w (some ⟨la, 0, none⟩) nb cp 1 (1 + m) (by omega) (by omega)
 have e8 : subK 1 (some (⟨la, 0, none⟩ : Addr)) cp 1 = some ⟨la, 1, none⟩ := by unfold subK; rw [if_neg (by omega)]; rfl
 rw [e8, show 1 + m - 1 = m by omega, show ((1 + m : Nat) : Int) = 1 + (m : Int) by omega, show ((1 : Nat) : Int) = 1 from rfl] at hr
 refine Fre.dv (v := .slice (some ⟨la, 1, none⟩) m (cp - 1)) ?_
 unfold execOp;simp only [d8, d10, hc, Option.map_some, Option.map_none, Sem.run_bind, hr, Result.andThen_ok]
 rfl
theorem stPla_12 : Fre.StepB Tryz.prog opsPla.1 a0 w0 (VPla f nb cp la m s B EB X kd rest) Fre.Kept 12 := by
 rintro E w hc hf hE hV hN hS _ ⟨⟩
 simp only [opsPla, gA, gS, gZ]
 have d4 : E (.tmp 55) = .agg #[.int .i64 (X.n : Int), .int .i64 (X.x : Int)] := hV 4 55 (by kernel_rfl) (by kernel_rfl)
 have d11 : E (.tmp 62) = .slice (some ⟨la, 1, none⟩) m (cp - 1) := hV 11 62 (by kernel_rfl) (by kernel_rfl)
 refine Fre.Does.enter (f := 264) (args := #[.agg #[.int .i64 (X.n : Int), .int .i64 (X.x : Int)], .slice (some ⟨la, 1, none⟩) m (cp - 1)]) (w' := w) ?_ ((superEpochs_c hge EB m s hm hs hEB h256 la 1 (cp - 1) w (Nat.lt_of_lt_of_le hla hS.size) (fun i x hx => (hS.cell (p := ⟨la, 1 + i, none⟩) hla).trans (hP i x hx)) (fun x hx => (hS.block x.1 (lt_blk (hrows x hx))).trans (hrows x hx))).mono ?_)
 ·go_simp
 ·rintro e w' ⟨q, rfl, h1, h2, h3⟩
  exact ⟨_, rfl, ⟨q, rfl, Nat.le_trans hB (Nat.le_trans hS.size h1), h2⟩, h3⟩
theorem stPla_13 : Fre.StepB Tryz.prog opsPla.1 a0 w0 (VPla f nb cp la m s B EB X kd rest) Fre.Kept 13 := by
 rintro E w hc hf hE hV hN hS _ ⟨⟩
 simp only [opsPla, gA, gS, gZ]
 have d12 := hV 12 63 (by kernel_rfl) (by kernel_rfl)
 replace d12 : (fun v : Value => ∃ q, v = .tuple #[.slice (some ⟨q, 0, none⟩) s s, .int .i64 0] /\ B <= q /\ w.heap[q]? = some (.cells (u64A (epochsL (flatB EB) s)) 47 (0, 0))) (E (.tmp 63)) := d12
 simp only at d12
 refine Fre.Does.value (v := E (.tmp 63)) (w' := w) ?_ ⟨d12, Fre.Kept.refl _⟩
 go_simp
theorem stPla_14 : Fre.StepB Tryz.prog opsPla.1 a0 w0 (VPla f nb cp la m s B EB X kd rest) Fre.Kept 14 := by
 rintro E w hc hf hE hV hN hS _ ⟨⟩
 simp only [opsPla, gA, gS, gZ]
 have d13 := hV 13 50 (by kernel_rfl) (by kernel_rfl)
 replace d13 : (fun v : Value => ∃ q, v = .tuple #[.slice (some ⟨q, 0, none⟩) s s, .int .i64 0] /\ B <= q /\ w.heap[q]? = some (.cells (u64A (epochsL (flatB EB) s)) 47 (0, 0))) (E (.tmp 50)) := d13
 simp only at d13
 obtain ⟨q9, e9, h9a, h9b⟩ := d13
 refine Fre.Does.value (v := .slice (some ⟨q9, 0, none⟩) s s) (w' := w) ?_ ⟨⟨q9, rfl, h9a, h9b⟩, Fre.Kept.refl _⟩
 clear hEB h256 hm hs hP hrows
 go_simp
theorem stPla_15 : Fre.StepB Tryz.prog opsPla.1 a0 w0 (VPla f nb cp la m s B EB X kd rest) Fre.Kept 15 := by
 rintro E w hc hf hE hV hN hS _ ⟨⟩
 simp only [opsPla, gA, gS, gZ]
 have d13 := hV 13 50 (by kernel_rfl) (by kernel_rfl)
 replace d13 : (fun v : Value => ∃ q, v = .tuple #[.slice (some ⟨q, 0, none⟩) s s, .int .i64 0] /\ B <= q /\ w.heap[q]? = some (.cells (u64A (epochsL (flatB EB) s)) 47 (0, 0))) (E (.tmp 50)) := d13
 simp only at d13
 obtain ⟨q9, e9, h9a, h9b⟩ := d13
 refine Fre.dv (v := .int .i64 0) ?_
 clear hEB h256 hm hs hP hrows
 go_simp
theorem stPla_16 : Fre.StepB Tryz.prog opsPla.1 a0 w0 (VPla f nb cp la m s B EB X kd rest) Fre.Kept 16 := by
 rintro E w hc hf hE hV hN hS _ ⟨⟩
 simp only [opsPla, gA, gS, gZ]
 have d14 := hV 14 64 (by kernel_rfl) (by kernel_rfl)
 replace d14 : (fun v : Value => ∃ q, v = .slice (some ⟨q, 0, none⟩) s s /\ B <= q /\ w.heap[q]? = some (.cells (u64A (epochsL (flatB EB) s)) 47 (0, 0))) (E (.tmp 64)) := d14
 simp only at d14
 refine Fre.Does.value (v := E (.tmp 64)) (w' := w) ?_ ⟨d14, Fre.Kept.refl _⟩
 go_simp
theorem stPla_17 : Fre.StepB Tryz.prog opsPla.1 a0 w0 (VPla f nb cp la m s B EB X kd rest) Fre.Kept 17 := by
 rintro E w hc hf hE hV hN hS _ ⟨⟩
 simp only [opsPla, gA, gS, gZ]
 have d15 : E (.tmp 65) = .int .i64 0 := hV 15 65 (by kernel_rfl) (by kernel_rfl)
 refine Fre.dv (v := .int .i64 0) ?_
 go_simp
variable (f nb cp la m s B EB X kd rest w0)
theorem regionPla {QQ : Exit -> Act -> World -> Prop} (hQ : ∀ (vs : Nat -> Value) w, (∀ j, j < 18 -> VPla f nb cp la m s B EB X kd rest j (vs j) w) -> Fre.Kept w0 w -> QQ .normal ⟨#[.pointer (some ⟨f, 0, none⟩), u1, u2, u3, u4, u5, u6, u7, u8, .int .i64 (m : Int), vs 16, vs 17, u12, u13, u14, u15, u16, u17, u18, u19, u20, u21, u22, u23, u24, u25, u26, u27, u28, u29, u30, u31, u32, u33, u34, u35, u36, u37, u38, u39, u40, u41, u42, u43, u44, u45, u46, u47, u48, u49, vs 13, vs 0, vs 1, vs 2, vs 3, vs 4, vs 5, vs 6, vs 7, vs 8, vs 9, vs 10, vs 11, vs 12, vs 14, vs 15, u66, u67], []⟩ w) : (Code.region 9 opsPla.1 true).wp Tryz.prog QQ ⟨#[.pointer (some ⟨f, 0, none⟩), u1, u2, u3, u4, u5, u6, u7, u8, .int .i64 (m : Int), u10, u11, u12, u13, u14, u15, u16, u17, u18, u19, u20, u21, u22, u23, u24, u25, u26, u27, u28, u29, u30, u31, u32, u33, u34, u35, u36, u37, u38, u39, u40, u41, u42, u43, u44, u45, u46, u47, u48, u49, u50, u51, u52, u53, u54, u55, u56, u57, u58, u59, u60, u61, u62, u63, u64, u65, u66, u67], []⟩ w0 := by
 refine Fre.region_kept 68 (by kernel_rfl) fitPla rfl (VPla f nb cp la m s B EB X kd rest) (kpPla f nb cp la m s B EB X kd rest) (fun i hi => ?_) (fun vs w h1 h2 => ?_)
 case refine_2 =>
  have h9 := hQ vs w (fun j hj => h1 j (by rw [sizePla]; exact hj)) h2
  exact Fre.fe (p := fun t => QQ .normal ⟨t, []⟩ w) h9 (by kernel_rfl)
 rw [sizePla] at hi;rcases cs18 hi with rfl | rfl | rfl | rfl | rfl | rfl | rfl | rfl | rfl | rfl | rfl | rfl | rfl | rfl | rfl | rfl | rfl | rfl
 ·exact stPla_0 h0 hge hm hs hEB h256 hla hP hrows hcp hm9 hB rfl
 ·exact stPla_1 h0 hge hm hs hEB h256 hla hP hrows hcp hm9 hB
 ·exact stPla_2 h0 hge hm hs hEB h256 hla hP hrows hcp hm9 hB
 ·exact stPla_3 h0 hge hm hs hEB h256 hla hP hrows hcp hm9 hB
 ·exact stPla_4 h0 hge hm hs hEB h256 hla hP hrows hcp hm9 hB
 ·exact stPla_5 h0 hge hm hs hEB h256 hla hP hrows hcp hm9 hB rfl
 ·exact stPla_6 h0 hge hm hs hEB h256 hla hP hrows hcp hm9 hB
 ·exact stPla_7 h0 hge hm hs hEB h256 hla hP hrows hcp hm9 hB
 ·exact stPla_8 h0 hge hm hs hEB h256 hla hP hrows hcp hm9 hB
 ·exact stPla_9 h0 hge hm hs hEB h256 hla hP hrows hcp hm9 hB rfl
 ·exact stPla_10 h0 hge hm hs hEB h256 hla hP hrows hcp hm9 hB
 ·exact stPla_11 h0 hge hm hs hEB h256 hla hP hrows hcp hm9 hB
 ·exact stPla_12 h0 hge hm hs hEB h256 hla hP hrows hcp hm9 hB
 ·exact stPla_13 h0 hge hm hs hEB h256 hla hP hrows hcp hm9 hB
 ·exact stPla_14 h0 hge hm hs hEB h256 hla hP hrows hcp hm9 hB
 ·exact stPla_15 h0 hge hm hs hEB h256 hla hP hrows hcp hm9 hB
 ·exact stPla_16 h0 hge hm hs hEB h256 hla hP hrows hcp hm9 hB
 ·exact stPla_17 h0 hge hm hs hEB h256 hla hP hrows hcp hm9 hB
end
def leafTs (BL : List Bl) (i : Nat) : List (List Nat) := (List.range i).map fun k => leafT k (BL.getD k (0, [])).2
def leafDs (BL : List Bl) (i : Nat) : List Dg := (List.range i).map fun k => sumD (leafT k (BL.getD k (0, [])).2)
theorem leafTs_succ (BL : List Bl) (i : Nat) : leafTs BL (i + 1) = leafTs BL i ++ [leafT i (BL.getD i (0, [])).2] := by unfold leafTs; rw [List.range_succ, List.map_append]; rfl
theorem leafDs_succ (BL : List Bl) (i : Nat) : leafDs BL (i + 1) = leafDs BL i ++ [sumD (leafT i (BL.getD i (0, [])).2)] := by unfold leafDs; rw [List.range_succ, List.map_append]; rfl
theorem leafDs_len (BL : List Bl) (i : Nat) : (leafDs BL i).length = i := by unfold leafDs; simp
theorem BaseTo.own {w w1 w2 : World} {X Y : BaseR} {S : BSet} (h : BaseTo w w1 X Y) (hc : Chg S w1 w2) (hS : ∀ k, S k -> w.heap.size <= k) (hd : ∀ k, S k -> ¬ Y.S k) : BaseTo w w2 X Y :=
 ⟨(h.at'.on.chg hc fun k hk e => hd k e hk).holds, h.chg.trans hc (fun i hi => .inr (hS i hi)), h.new⟩
theorem BaseAt.bk_at {w w' : World} {X : BaseR} {TS' : List (List Nat)} {cl' : Option Nat} {E' : List BEnt} (h : BaseAt w X) (h1 : Bk w' X.b X.tb X.mb cl' E' TS') (h2 : Chg (fun k => k = X.b \/ k = X.mb) w w') (h3 : ∀ k, bkS X.b X.tb X.mb E' k -> bkS X.b X.tb X.mb X.E k \/ w.heap.size <= k) : BaseTo w w' X { X with cl := cl', E := E', TS := TS' } := by
 have hc : Chg X.bS w w' := h2.mono fun k _ hk => by
  rcases hk with e | e
  ·exact .inl e
  ·exact .inr (.inr (.inl e))
 have hnew : ∀ k, bkS X.b X.tb X.mb E' k -> k ≠ X.t /\ ¬ X.sS k /\ ¬ X.dS k := fun k hk => by
  rcases h3 k hk with h4 | h4
  ·exact ⟨fun e => h.bt (e ▸ h4), fun e => h.sb k e h4, fun e => h.db k e h4⟩
  ·exact ⟨fun e => by have := lt_blk h.tr; omega, fun e => by have := h.sl.on.lt k e; omega, fun e => by have := h.dev.on.lt k e; omega⟩
 refine ⟨⟨(h.dev.on.chg hc fun k hk e => h.db k hk e).holds, (h.tr.on.chg hc fun k hk e => h.bt (hk ▸ e)).holds, (h.sl.on.chg hc fun k hk e => h.sb k hk e).holds, h1, h.rl, h.geo, h.len, h.key, h.dt, h.st, fun e => (hnew _ e).1 rfl, h.ds, fun k hk e => (hnew k e).2.2 hk, fun k hk e => (hnew k e).2.1 hk⟩,
  hc.mono fun k _ hk => .inr (.inr (.inr hk)), fun k hk => ?_⟩
 rcases hk with hk | hk | hk | hk
 ·exact .inl (.inl hk)
 ·exact .inl (.inr (.inl hk))
 ·exact .inl (.inr (.inr (.inl hk)))
 ·rcases h3 k hk with h4 | h4
  ·exact .inl (.inr (.inr (.inr h4)))
  ·exact .inr h4
theorem wpList_load_run {P : Program} {ops : Array Oper} {rest : List Oper} {o : Oper} {A : Act} {w : World} {Q : Exit -> Act -> World -> Prop} (hgd : o.guard = none) (ty : TypeId) (x : Operand) (ho : o.op = .load ty x) {p : Addr} {v : Value} (hx : A.eval x = .pointer (some p)) (hr : (loadVar ty p).run P w = .ok v w) (hK : wpList P ops Q rest (A.put o.dst v) w) : wpList P ops Q (o :: rest) A w :=
 wpList_plain hgd fun _ hk => by
  unfold Oper.wp execOp
  simp only [ho, hx, Instr.loadAt, Instr.sureAddr, Sem.run_bind, Sem.run_pure, Result.andThen_ok, hr]
  exact hk _ _ hK
def plX (X : BaseR) (cl : Option Nat) (E : List BEnt) (TS : List (List Nat)) : BaseR := { X with cl := cl, E := E, TS := TS }
def PlTo (w wr : World) (X : BaseR) (BL : List Bl) (i j : Nat) (v : Value) : Prop :=
 ∃ cl E, BaseTo w wr X (plX X cl E (X.TS ++ leafTs BL i)) /\ wr.ownsRow w.heap.size 38 32 v j (cellsK dgE (leafDs BL j)) /\ ∀ q, v.ownBlock = some q -> ¬ (plX X cl E (X.TS ++ leafTs BL i)).S q
theorem PlTo.sum {w wr : World} {X : BaseR} {BL : List Bl} {i : Nat} {v : Value} (h : PlTo w wr X BL i i v) : ∃ cl E, BaseTo w wr X (plX X cl E (X.TS ++ leafTs BL i)) /\
  ∀ w5, BkTo wr w5 X.b X.tb X.mb E (X.TS ++ leafTs BL i ++ [leafT i (BL.getD i (0, [])).2]) -> PlTo w w5 X BL (i + 1) i v := by
 obtain ⟨cl, E, h1, h2, h3⟩ := h
 refine ⟨cl, E, h1, fun w5 hb => ?_⟩
 rw [List.append_assoc, <- leafTs_succ] at hb
 obtain ⟨cl', E', h4⟩ := BaseAt.bk_to (X := plX X cl E (X.TS ++ leafTs BL i)) h1.at' hb
 obtain ⟨h5, h6⟩ := h4.keep (On.own h2) h3
 exact ⟨cl', E', h1.trans h4, h5.holds, h6⟩
theorem PlTo.push {w w5 w7 : World} {X : BaseR} {BL : List Bl} {i : Nat} {v v' : Value} {o : Obj} (h : PlTo w w5 X BL (i + 1) i v) (ho : w7.ownsRow w.heap.size 38 32 v' (i + 1) (cellsK dgE (leafDs BL i ++ [sumD (leafT i (BL.getD i (0, [])).2)]))) (hg : (w5.alloc o).grownBy w7 v.ownBlock) (hat : v'.ownBlock = v.ownBlock \/ v'.ownBlock = some (w5.alloc o).heap.size) : PlTo w w7 X BL (i + 1) (i + 1) v' := by
 obtain ⟨cl, E, h1, h2, h3⟩ := h
 have hb : Below w5.heap.size w5 (w5.alloc o) := below_box w5 o
 have h6 := h1.trans (BaseTo.below h1.at' hb)
 have hc : Chg (fun k => v.ownBlock = some k) (w5.alloc o) w7 := Chg.grown hg fun k hk _ => hk
 have h7 := h6.own hc (fun k hk => (h2.lt k hk).1) (fun k hk => h3 k hk)
 refine ⟨cl, E, h7, by rw [leafDs_succ]; exact ho, fun q hq => ?_⟩
 rcases hat with e | e
 ·exact h3 q (e ▸ hq)
 ·rw [e] at hq
  injection hq with hq
  intro hx;have := h6.at'.lt q hx
  omega
theorem PlTo.zero {w : World} {X : BaseR} (BL : List Bl) (h : BaseAt w X) : PlTo w w X BL 0 0 (.slice none 0 0) :=
 ⟨X.cl, X.E, by have h1 := BaseTo.refl h; unfold plX; rw [show X.TS ++ leafTs BL 0 = X.TS from List.append_nil _]; exact h1, World.ownsRow_nil _ _ _ _, fun q e => by cases e⟩
theorem fplanted_c {X : BaseR} {f : Nat} {kd : Int} {bv : Value} {BL : List Bl} {rest : Array Value} (nb : Nat) (hBL : BL.length = nb) (hnb : nb = leavesN X.n) (w : World) (h : BaseAt w X) (hF : FndAt w f X kd bv BL rest) (hd : ∀ i, fndS f bv BL i -> ¬ X.S i) :
  Calls Tryz.prog 206 #[.pointer (some ⟨f, 0, none⟩)] w fun r w' => ∃ t q lv Q, r = .returned (.tuple #[.pointer (some ⟨t, 0, none⟩), .slice (some ⟨q, 0, none⟩) (sealedN X.n) (sealedN X.n)]) /\ ∃ cl E, BaseTo w w' X { X with cl := cl, E := E, TS := X.TS ++ leafTs BL nb ++ treeTexts (leafDs BL nb) } /\
   TreeAt w' t X.b nb lv Q /\ Q.map (·.2) = (List.range (depthN nb + 1)).map (rowAt (padD (leafDs BL nb))) /\ w.heap.size <= q /\ w'.heap[q]? = some (.cells (u64A (epochsL (flatB ((BL.drop 1).take (epochsN X.n))) (sealedN X.n))) 47 (0, 0)) /\ (∀ k, treeS t lv Q k -> w.heap.size <= k /\ ¬ bkS X.b X.tb X.mb E k) /\ w.heap.size <= q := by
 have hgo := geo_ok h.geo
 have hn98 : 3 <= nb /\ nb <= 98 := by
  have h2 := leavesN_le X.n hgo.2.1
  refine ⟨?_, by omega⟩
  rw [hnb]; unfold leavesN epochsN sealedN; omega
 obtain ⟨la, cp, hbv, _, hla⟩ := own_pos hF.own (by omega)
 rw [hBL] at hbv;have c7 : w.cell? ⟨f, 7, none⟩ = some (.slice (some ⟨la, 0, none⟩) nb cp) := by rw [cells_at hF.blk 7, foundA_bv, hbv]
 have c3 : w.cell? ⟨f, 3, none⟩ = some (.pointer (some ⟨X.b, 0, none⟩)) := by rw [cells_at hF.blk 3, foundA_base _ _ _ _ 3 (by omega)]; rfl
 have H := Lib.hid h;have HF := Lib.hid hF;have HD := Lib.hid hd;have HN := Lib.hid (And.intro hBL (And.intro hn98 hnb))
 have HBV := Lib.hid hbv;clear h hF hd hBL hnb hgo hn98 hbv hla
 go_enter Tryz.func206, Tryz.ntmps206
 go_wp2_with fail
 go_loopw [4, 17] (fun v4 v17 wr => ∃ i : Nat, i <= nb /\ v17 = .int .i64 (i : Int) /\ Hid (PlTo w wr X BL i i v4)) (fun _ v17 _ => nb - (intOf v17).toNat)
 case atStart => exact ⟨0, Nat.zero_le _, rfl, PlTo.zero BL H.out⟩
 case round =>
  obtain ⟨i, hi, rfl, hto⟩ := hrel
  obtain ⟨v4, hv4⟩ : ∃ v4, v4 = u4 := ⟨_, rfl⟩
  rw [<- hv4] at hto;rw [<- hv4];clear hv4;obtain ⟨cl, E, hB, hnext⟩ := hto.out.sum
  by_cases hlt : i < nb
  ·have dl : (i : Int) < (nb : Int) := by omega
   have d0 : ¬ (i : Int) < 0 := by omega
   obtain ⟨hF2, hd2⟩ := hB.keep HF.out.on HD.out
   have hF3 := hF2.holds
   have hlt2 : i < BL.length := by have := HN.out.1; omega
   obtain ⟨xq, hxq⟩ : ∃ xq, xq = BL.getD i (0, []) := ⟨_, rfl⟩
   have hgi : BL[i]? = some xq := by rw [hxq, List.getD_eq_getElem?_getD, List.getElem?_eq_getElem hlt2]; rfl
   have hmem := List.mem_of_getElem? hgi
   obtain ⟨q, l⟩ := xq
   obtain ⟨hq, hl, hl8⟩ := hF3.rows _ hmem
   simp only at hq hl hl8
   have hown := hF3.own
   rw [HBV.out, HN.out.1] at hown
   have hrk := rowK_own (enc := blE) (k := 1) (fun _ => rfl) Nat.zero_lt_one hown
   obtain ⟨_, hcell⟩ := hrk.at (i := i) (x := q) (by rw [List.getElem?_map, hgi]; rfl)
   have cr1 := hcell 0 (blV q) rfl
   rw [show 0 + (i * 1 + 0) = i by omega] at cr1
   have cr1 : wr.cell? ⟨la, i, none⟩ = some (.slice (some ⟨q, 0, none⟩) 256 256) := cr1
   have cr3 : wr.cell? ⟨f, 3, none⟩ = some (.pointer (some ⟨X.b, 0, none⟩)) := by rw [cells_at hF3.blk 3, foundA_base _ _ _ _ 3 (by omega)]; rfl
   have hby := bytesAt_block hl8 hq
   rw [hl] at hby;have hsum := treeSum_c i 256 (by have := HN.out; omega) (some ⟨q, 0, none⟩) 256 l hl (by omega) (by omega) wr hB.at'.bk hby
   rw [<- hxq] at hnext;have HSUM := Lib.hid hsum;have HNX := Lib.hid hnext;have HXQ := Lib.hid hxq;have HLT := Lib.hid hlt;clear hF2 hd2 hF3 hlt2 hgi hmem hq hl hl8 hown hrk hcell hby hsum hnext hxq hi hto hB hlt c3 c7;go_wp2_with fail
   refine HSUM.out.mono ?_
   rintro r w5 ⟨rfl, hb5⟩
   have HP5 := Lib.hid (HNX.out w5 hb5)
   clear hb5 HSUM HNX;obtain ⟨xd, hxd⟩ : ∃ xd, xd = sumD (leafT i l) := ⟨_, rfl⟩
   have ev : Value.agg (bA (sumN (leafT i l))) = dgV xd := by rw [hxd]; rfl
   rw [ev];obtain ⟨yd, hyd⟩ : ∃ yd, yd = (dgE xd).toArray := ⟨_, rfl⟩
   obtain ⟨w6, hw6⟩ : ∃ w6, w6 = w5.alloc (.cells yd 38) := ⟨_, rfl⟩
   have hrow6 : RowK dgE 32 w6 (some ⟨w5.heap.size, 0, none⟩) [xd] := by
    rw [hw6, hyd]; exact rowK_one (enc := dgE) dgE_len (heap_new' _ _)
   have hown5 : w5.ownsRow w.heap.size 38 32 v4 i (cellsK dgE (leafDs BL i)) := HP5.out.choose_spec.choose_spec.2.1
   have hown6 : w6.ownsRow w.heap.size 38 32 v4 i (cellsK dgE (leafDs BL i)) := by
    rw [hw6]; exact ((On.own hown5).below (below_box w5 _)).holds
   have hsz6 : w.heap.size <= w6.heap.size := by
    have h1 := HP5.out.choose_spec.choose_spec.1.chg.size
    rw [hw6, World.size_alloc]; omega
   have HP6 : Hid (∀ v7 w7, w7.ownsRow w.heap.size 38 32 v7 (i + 1) (cellsK dgE (leafDs BL i ++ [xd])) -> w6.grownBy w7 v4.ownBlock -> (v7.ownBlock = v4.ownBlock \/ v7.ownBlock = some w6.heap.size) -> PlTo w w7 X BL (i + 1) (i + 1) v7) := Lib.hid (fun v7 w7 h1 h2 h3 => by
    rw [hw6] at h2 h3;refine HP5.out.push ?_ h2 h3
    rw [<- HXQ.out, <- hxd]; exact h1)
   have HROW6 := Lib.hid hrow6;have HOWN6 := Lib.hid hown6;have HSZ6 := Lib.hid hsz6;have HI : Hid (i <= 98) := Lib.hid (by have := HN.out; have := HLT.out; omega)
   have ei : IntKind.i64.wrap ((i : Int) + 1) = (i : Int) + 1 := IntWalk.i64_in _ (by have := HI.out; omega)
   clear hxd ev hrow6 hown5 hown6 hsz6 HP5 HXQ cr1 cr3;go_wp2_with (first
    | (refine digRT.wpList_build (p := xd) (by decide) rfl (.tmp 30) rfl rfl ?_; rw [<- hyd]; clear hyd; rw [<- hw6]; clear hw6)
    | (refine digRT.wpList_append_at rfl (.tmp 22) (.tmp 31) rfl (base := w.heap.size) (v := v4) (n := i) (L := leafDs BL i) rfl HOWN6.out (a := some ⟨w5.heap.size, 0, none⟩) (m := 1) (cap := 1) (M := [xd]) rfl rfl HROW6.out (fun h => by cases h) (by rintro _ ⟨⟩; rfl) (by have := HI.out; unfold maxLen; omega) (by have := HI.out; omega) HSZ6.out ?_; intro v7 w7 hown7 hgr7 hnil7 hat7; have HP7 := Lib.hid (HP6.out v7 w7 hown7 hgr7 hat7); clear hown7 hgr7 hnil7 hat7)
    | fail)
   go_roundw
   case rel => exact ⟨i + 1, by have := HLT.out; omega, by go_num, HP7⟩
   case measure => simp [intOf]; have := HLT.out; omega
  ·have dl : ¬ (i : Int) < (nb : Int) := by omega
   have hin : i = nb := by omega
   have hto2 := hto.out
   rw [hin] at hto2;clear hto hnext hB;obtain ⟨cl1, E1, hB1, hO1, hdj1⟩ := hto2
   obtain ⟨hF2, hd2⟩ := hB1.keep HF.out.on HD.out
   obtain ⟨g1, gc1, hv41, _, hg1⟩ := own_pos hO1 (by have := HN.out; omega)
   subst hv41;have hR1 := rowK_own (enc := dgE) dgE_len (by decide) hO1
   have hnew := treeNew_c (leafDs BL nb) nb (leafDs_len BL nb) (by have := HN.out; omega) (by have := HN.out; omega) g1 0 gc1 wr hB1.at'.bk hR1
   have cr3 : wr.cell? ⟨f, 3, none⟩ = some (.pointer (some ⟨X.b, 0, none⟩)) := by rw [cells_at hF2.holds.blk 3, foundA_base _ _ _ _ 3 (by omega)]; rfl
   have HNEW := Lib.hid hnew;have HB1 := Lib.hid hB1;clear hnew hB1 hO1 hdj1 hF2 hd2 hR1 hin hi hlt c3 c7;go_wp2_with fail
   refine HNEW.out.mono ?_
   rintro r w5 ⟨t, rfl, hT5⟩
   obtain ⟨lv, Q, cl2, E2, hT, hQ, hbk, hch, hgr, htd⟩ := hT5
   have hB5 : BaseTo wr w5 _ _ := BaseAt.bk_at (X := plX X cl1 E1 (X.TS ++ leafTs BL nb)) HB1.out.at' hbk hch hgr
   have HB5 := Lib.hid (HB1.out.trans hB5)
   have HTD : Hid (TreeAt w5 t X.b nb lv Q /\ Q.map (·.2) = (List.range (depthN nb + 1)).map (rowAt (padD (leafDs BL nb))) /\ ∀ k, treeS t lv Q k -> w.heap.size <= k /\ ¬ bkS X.b X.tb X.mb E2 k) := Lib.hid ⟨hT, hQ, fun k hk => ⟨Nat.le_trans HB1.out.chg.size (htd k hk).1, (htd k hk).2⟩⟩
   clear hT hQ hbk hch hgr htd hB5 HNEW HB1 cr3;obtain ⟨hF5, hd5⟩ := HB5.out.keep HF.out.on HD.out
   have HF5 := Lib.hid hF5.holds;have hr5 := load_fgeo hF5.holds.blk
   have HR5 := Lib.hid hr5;have HEP := Lib.hid (gEpochs_c H.out.geo w5)
   obtain ⟨m, hm⟩ : ∃ m, m = epochsN X.n := ⟨_, rfl⟩
   rw [<- hm] at HEP;have HM := Lib.hid hm;clear hF5 hd5 hr5 hm;go_wp2_with (first
    | (refine wpList_load_run rfl 44 (.tmp 47) rfl rfl HR5.out ?_)
    | fail)
   refine HEP.out.mono ?_
   rintro r w6 ⟨rfl, hb6⟩
   have HB6 := Lib.hid (HB5.out.trans (BaseTo.below HB5.out.at' hb6))
   have HTD6 : Hid (TreeAt w6 t X.b nb lv Q /\ Q.map (·.2) = (List.range (depthN nb + 1)).map (rowAt (padD (leafDs BL nb))) /\ ∀ k, treeS t lv Q k -> w.heap.size <= k /\ ¬ bkS X.b X.tb X.mb E2 k) := Lib.hid ⟨(HTD.out.1.on.below hb6).holds, HTD.out.2⟩
   clear hb6 HB5 HTD HF5 HR5 HEP;obtain ⟨hF6, hd6⟩ := HB6.out.keep HF.out.on HD.out
   have hF := hF6.holds
   have hown := hF.own
   rw [HBV.out, HN.out.1] at hown
   have hms : 1 + m + sealedN X.n = nb /\ 1 <= sealedN X.n := by
    refine ⟨by rw [HN.out.2.2, HM.out]; rfl, by unfold sealedN; omega⟩
   have hcp : nb <= cp := by
    rcases hown.2 with ⟨h1, _⟩ | ⟨g9, c9, cur9, h1, h2, _⟩
    ·have := HN.out; omega
    ·injection h1 with _ _ e9
     omega
   have hrk := rowK_own (enc := blE) (k := 1) (fun _ => rfl) Nat.zero_lt_one hown
   obtain ⟨EB, hEB⟩ : ∃ EB, EB = (BL.drop 1).take m := ⟨_, rfl⟩
   have hsub : ∀ x ∈ EB, x ∈ BL := fun x hx => List.mem_of_mem_drop (List.mem_of_mem_take (hEB ▸ hx))
   have hgo := H.out.geo
   obtain ⟨s, hs⟩ : ∃ s, s = sealedN X.n := ⟨_, rfl⟩
   have hblk := hF.blk
   rw [HBV.out] at hblk;have hla : la < w6.heap.size := (hrk.at (i := 0) (x := (BL.map (·.1)).getD 0 0) (by rw [List.getD_eq_getElem?_getD, List.getElem?_eq_getElem (by rw [List.length_map]; have := HN.out; omega)]; rfl)).1
   go_upto_region 9 with fail
   refine regionPla f nb cp la m s w.heap.size EB X kd rest w6 hblk hgo HM.out hs ?_ ?_ hla ?_ ?_ (by omega) (by have := HN.out; omega) HB6.out.chg.size ?_
   ·rw [hEB, List.length_take, List.length_drop, HN.out.1]; omega
   ·exact fun x hx => (hF.rows x (hsub x hx)).2
   ·intro j x hx
    have hj : j < m := by
     have h1 := (List.getElem?_eq_some_iff.1 hx).1
     rw [hEB, List.length_take] at h1; omega
    rw [hEB, List.getElem?_take, if_pos hj, List.getElem?_drop] at hx
    have h2 := (hrk.at (i := 1 + j) (x := x.1) (by rw [List.getElem?_map, hx]; rfl)).2 0 (blV x.1) rfl
    rw [show 0 + ((1 + j) * 1 + 0) = 1 + j by omega] at h2
    exact h2
   ·exact fun x hx => (hF.rows x (hsub x hx)).1
   intro vs w7 hv hk;obtain ⟨q, e16, hq16, hx16⟩ : ∃ q, vs 16 = .slice (some ⟨q, 0, none⟩) s s /\ w.heap.size <= q /\ w7.heap[q]? = some (.cells (u64A (epochsL (flatB EB) s)) 47 (0, 0)) := hv 16 (by omega)
   generalize vs 16 = x16 at e16
   subst e16;have HB7 := Lib.hid (HB6.out.trans (BaseTo.below HB6.out.at' hk))
   have HT7 := Lib.hid (HTD6.out.1.on.below hk).holds
   have HX := Lib.hid (And.intro hq16 hx16)
   have HS := Lib.hid hs;have HEB := Lib.hid hEB;clear hv hk hq16 hx16 hs hEB hsub hblk hla hgo hrk hcp hms hown hF hF6 hd6 HB6;go_wp2
   go_ret2
   refine ⟨t, q, lv, Q, by rw [<- HS.out]; rfl, cl2, E2, HB7.out, HT7.out, HTD6.out.2.1, HX.out.1, ?_, HTD6.out.2.2, HX.out.1⟩
   rw [<- HS.out, <- HM.out, <- HEB.out]
   exact HX.out.2
def StJ (S : BSet) (J : World -> Prop) (a b : World) : Prop := Chg S a b /\ (J a -> J b)
theorem StJ.refl {S : BSet} {J : World -> Prop} (a : World) : StJ S J a a := ⟨Chg.refl _ _, id⟩
theorem StJ.trans {S : BSet} {J : World -> Prop} (a b c : World) (h : StJ S J a b) (k : StJ S J b c) : StJ S J a c := ⟨h.1.trans' k.1, fun x => k.2 (h.2 x)⟩
theorem StJ.of_below {S : BSet} {J : World -> Prop} (hJ : ∀ a b, Below a.heap.size a b -> J a -> J b) {a b : World} (h : Below a.heap.size a b) : StJ S J a b := ⟨Chg.of_below h, hJ a b h⟩
def BkJ (wI : World) (X : BaseR) (TS : List (List Nat)) (w : World) : Prop := ∃ cl E, BaseTo wI w X (plX X cl E TS)
theorem BkJ.below {wI : World} {X : BaseR} {TS : List (List Nat)} (a b : World) (h : Below a.heap.size a b) (j : BkJ wI X TS a) : BkJ wI X TS b := by
 obtain ⟨cl, E, h1⟩ := j
 exact ⟨cl, E, h1.trans (BaseTo.below h1.at' h)⟩
theorem BaseTo.more {w w' : World} {X Y : BaseR} {TS : List (List Nat)} (h : BaseTo w w' X Y) (hs : ∀ x ∈ Y.TS, x ∈ TS) : BaseTo w w' X { Y with TS := TS } :=
 ⟨⟨h.at'.dev, h.at'.tr, h.at'.sl, h.at'.bk.more hs, h.at'.rl, h.at'.geo, h.at'.len, h.at'.key, h.at'.dt, h.at'.st, h.at'.bt, h.at'.ds, h.at'.db, h.at'.sb⟩, h.chg, h.new⟩
theorem BkJ.sum {wI w w' : World} {X : BaseR} {TS : List (List Nat)} {x : List Nat} {cl : Option Nat} {E : List BEnt} (h : BaseTo wI w X (plX X cl E TS)) (hx : x ∈ TS) (hb : BkTo w w' X.b X.tb X.mb E (TS ++ [x])) : BkJ wI X TS w' := by
 obtain ⟨cl', E', h1⟩ := BaseAt.bk_to (X := plX X cl E TS) h.at' hb
 refine ⟨cl', E', (h.trans h1).more fun y hy => ?_⟩
 rcases List.mem_append.1 hy with e | e
 ·exact e
 ·rw [List.mem_singleton.1 e]; exact hx
theorem built_reg0 (c a0 a1 a2 a3 a4 a5 a6 a7 a8 a9 a10 a11 a12 a13 a14 a15 a16 a17 a18 a19 a20 a21 a22 a23 a24 a25 a26 a27 a28 a29 a30 a31 : Nat) : Tryz.prog.built 116 [(0, .int .u64 (c : Int)), (1, .agg (bA [a0, a1, a2, a3, a4, a5, a6, a7, a8, a9, a10, a11, a12, a13, a14, a15, a16, a17, a18, a19, a20, a21, a22, a23, a24, a25, a26, a27, a28, a29, a30, a31]))] = some (regA c [a0, a1, a2, a3, a4, a5, a6, a7, a8, a9, a10, a11, a12, a13, a14, a15, a16, a17, a18, a19, a20, a21, a22, a23, a24, a25, a26, a27, a28, a29, a30, a31]) := by kernel_rfl
theorem built_reg (c : Nat) (R : List Nat) (hR : R.length = 32) : Tryz.prog.built 116 [(0, .int .u64 (c : Int)), (1, .agg (bA R))] = some (regA c R) := by
 match R, hR with
 | [a0, a1, a2, a3, a4, a5, a6, a7, a8, a9, a10, a11, a12, a13, a14, a15, a16, a17, a18, a19, a20, a21, a22, a23, a24, a25, a26, a27, a28, a29, a30, a31], _ => exact built_reg0 c a0 a1 a2 a3 a4 a5 a6 a7 a8 a9 a10 a11 a12 a13 a14 a15 a16 a17 a18 a19 a20 a21 a22 a23 a24 a25 a26 a27 a28 a29 a30 a31
theorem field_reg0 (c a0 a1 a2 a3 a4 a5 a6 a7 a8 a9 a10 a11 a12 a13 a14 a15 a16 a17 a18 a19 a20 a21 a22 a23 a24 a25 a26 a27 a28 a29 a30 a31 : Nat) (w : World) : (Instr.field 116 (.agg (regA c [a0, a1, a2, a3, a4, a5, a6, a7, a8, a9, a10, a11, a12, a13, a14, a15, a16, a17, a18, a19, a20, a21, a22, a23, a24, a25, a26, a27, a28, a29, a30, a31])) 0).run Tryz.prog w = .ok (.int .u64 (c : Int)) w := by kernel_rfl
theorem field_reg (c : Nat) (R : List Nat) (hR : R.length = 32) (w : World) : (Instr.field 116 (.agg (regA c R)) 0).run Tryz.prog w = .ok (.int .u64 (c : Int)) w := by
 match R, hR with
 | [a0, a1, a2, a3, a4, a5, a6, a7, a8, a9, a10, a11, a12, a13, a14, a15, a16, a17, a18, a19, a20, a21, a22, a23, a24, a25, a26, a27, a28, a29, a30, a31], _ => exact field_reg0 c a0 a1 a2 a3 a4 a5 a6 a7 a8 a9 a10 a11 a12 a13 a14 a15 a16 a17 a18 a19 a20 a21 a22 a23 a24 a25 a26 a27 a28 a29 a30 a31 w
def opsCnt : {o : Array Oper // some o = (Tryz.f165.body.bind (Fre.findR 2))} := ⟨_, rfl⟩
theorem fitCnt : Fre.fit .any opsCnt.1 27 = true := by kernel_rfl
theorem sizeCnt : opsCnt.1.size = 18 := by kernel_rfl
theorem tailCnt : Fre.tailFitT .any opsCnt.1 16 = true := by kernel_rfl
def VCnt (wI : World) (f t n : Nat) (X : BaseR) (TS : List (List Nat)) (kd : Int) (bv : Value) (rest : Array Value) (lv : Value) (Q : List QRow) (rq : Nat) (row : List Dg) (top : Dg) (i : Nat) (v : Value) (w : World) : Prop := match i with
 | 0 => v = .pointer (some ⟨f, 0, none⟩)
 | 1 => v = .pointer (some ⟨f, 0, none⟩)
 | 2 => v = .pointer (some ⟨f, 0, none⟩)
 | 3 => v = .pointer (some ⟨f, 1, none⟩)
 | 4 => v = .pointer (some ⟨X.t, 0, none⟩)
 | 5 => v = .pointer (some ⟨f, 0, none⟩)
 | 6 => v = .pointer (some ⟨f, 0, none⟩)
 | 7 => v = .pointer (some ⟨f, 0, none⟩)
 | 8 => v = .pointer (some ⟨f, 1, none⟩)
 | 9 => v = .pointer (some ⟨X.t, 0, none⟩)
 | 10 => v = .agg (regA X.c X.R)
 | 11 => v = .int .u64 (X.c : Int)
 | 12 => v = .int .u64 ((X.c : Int) + 1)
 | 13 => v = .pointer (some ⟨t, 0, none⟩)
 | 14 => v = .agg (bA (sumN (rootT n top.1)))
 | 15 => v = .agg (regA (X.c + 1) (sumN (rootT n top.1)))
 | _ => True
section
variable {u1 u2 u4 u5 u6 u7 u8 u9 u10 u11 u12 u13 u14 u15 u16 u17 u18 u19 u20 u21 u22 u23 u24 u25 u26 : Value}
theorem kpCnt (wI : World) (f t n : Nat) (X : BaseR) (TS : List (List Nat)) (kd : Int) (bv : Value) (rest : Array Value) (lv : Value) (Q : List QRow) (rq : Nat) (row : List Dg) (top : Dg) : ∀ j v w w', j < 16 -> VCnt wI f t n X TS kd bv rest lv Q rq row top j v w -> (StJ (fun k => k = X.b \/ k = X.mb) (BkJ wI X TS)) w w' -> VCnt wI f t n X TS kd bv rest lv Q rq row top j v w' := by
 intro j v w w' hj h hs
 rcases cs16 hj with rfl | rfl | rfl | rfl | rfl | rfl | rfl | rfl | rfl | rfl | rfl | rfl | rfl | rfl | rfl | rfl <;> exact h
variable {wI : World} {f t n : Nat} {X : BaseR} {TS : List (List Nat)} {kd : Int} {bv : Value} {rest : Array Value} {lv : Value} {Q : List QRow} {rq : Nat} {row : List Dg} {top : Dg} {a0 : Act} {w0 : World} (h0 : w0.heap[f]? = some (.cells (foundA X kd bv rest) 251 (0, 0))) (hfb : ¬ (f = X.b \/ f = X.mb)) (hJ0 : BkJ wI X TS w0) (hT0 : TreeAt w0 t X.b n lv Q) (hTd : ∀ k, treeS t lv Q k -> ¬ (k = X.b \/ k = X.mb)) (hn : n <= 1024) (hQ20 : Q.length <= 20) (hlast : Q[Q.length - 1]? = some (rq, row)) (hrow : 0 < row.length) (htop : top = row.getD 0 zeroD) (hx : rootT n top.1 ∈ TS) (hc9 : X.c + 1 < 18446744073709551616)
include h0 hfb hJ0 hT0 hTd hn hQ20 hlast hrow htop hx hc9
theorem stCnt_0 (g90 : a0.tmps.getD 0 undef = .pointer (some ⟨f, 0, none⟩)) : Fre.StepB Tryz.prog opsCnt.1 a0 w0 (VCnt wI f t n X TS kd bv rest lv Q rq row top) (StJ (fun k => k = X.b \/ k = X.mb) (BkJ wI X TS)) 0 := by
 rintro E w hc hf hE hV hN hS _ ⟨⟩
 simp only [opsCnt, gA, gS, gZ]
 have b0 : E (.tmp 0) = .pointer (some ⟨f, 0, none⟩) := (hE 0 (by kernel_rfl)).trans g90
 clear g90;refine Fre.Does.value (v := .pointer (some ⟨f, 0, none⟩)) (w' := w) ?_ ⟨rfl, StJ.refl _⟩
 go_simp
theorem stCnt_1 : Fre.StepB Tryz.prog opsCnt.1 a0 w0 (VCnt wI f t n X TS kd bv rest lv Q rq row top) (StJ (fun k => k = X.b \/ k = X.mb) (BkJ wI X TS)) 1 := by
 rintro E w hc hf hE hV hN hS _ ⟨⟩
 simp only [opsCnt, gA, gS, gZ]
 have d0 : E (.tmp 10) = .pointer (some ⟨f, 0, none⟩) := hV 0 10 (by kernel_rfl) (by kernel_rfl)
 refine Fre.Does.value (v := .pointer (some ⟨f, 0, none⟩)) (w' := w) ?_ ⟨rfl, StJ.refl _⟩
 go_simp
theorem stCnt_2 : Fre.StepB Tryz.prog opsCnt.1 a0 w0 (VCnt wI f t n X TS kd bv rest lv Q rq row top) (StJ (fun k => k = X.b \/ k = X.mb) (BkJ wI X TS)) 2 := by
 rintro E w hc hf hE hV hN hS _ ⟨⟩
 simp only [opsCnt, gA, gS, gZ]
 have d1 : E (.tmp 11) = .pointer (some ⟨f, 0, none⟩) := hV 1 11 (by kernel_rfl) (by kernel_rfl)
 refine Fre.Does.value (v := .pointer (some ⟨f, 0, none⟩)) (w' := w) ?_ ⟨rfl, StJ.refl _⟩
 go_simp
theorem stCnt_3 : Fre.StepB Tryz.prog opsCnt.1 a0 w0 (VCnt wI f t n X TS kd bv rest lv Q rq row top) (StJ (fun k => k = X.b \/ k = X.mb) (BkJ wI X TS)) 3 := by
 rintro E w hc hf hE hV hN hS _ ⟨⟩
 simp only [opsCnt, gA, gS, gZ]
 have d2 : E (.tmp 12) = .pointer (some ⟨f, 0, none⟩) := hV 2 12 (by kernel_rfl) (by kernel_rfl)
 refine Fre.Does.value (v := .pointer (some ⟨f, 1, none⟩)) (w' := w) ?_ ⟨rfl, StJ.refl _⟩
 go_simp
theorem stCnt_4 : Fre.StepB Tryz.prog opsCnt.1 a0 w0 (VCnt wI f t n X TS kd bv rest lv Q rq row top) (StJ (fun k => k = X.b \/ k = X.mb) (BkJ wI X TS)) 4 := by
 rintro E w hc hf hE hV hN hS _ ⟨⟩
 simp only [opsCnt, gA, gS, gZ]
 have d3 : E (.tmp 13) = .pointer (some ⟨f, 1, none⟩) := hV 3 13 (by kernel_rfl) (by kernel_rfl)
 have c1 : w.cell? ⟨f, 1, none⟩ = some (.pointer (some ⟨X.t, 0, none⟩)) := by rw [cells_at ((hS.1.block f (lt_blk h0) hfb).trans h0) 1, foundA_base X kd bv rest 1 (by omega)]; rfl
 refine Fre.Does.value (v := .pointer (some ⟨X.t, 0, none⟩)) (w' := w) ?_ ⟨rfl, StJ.refl _⟩
 go_simp
theorem stCnt_5 (g90 : a0.tmps.getD 0 undef = .pointer (some ⟨f, 0, none⟩)) : Fre.StepB Tryz.prog opsCnt.1 a0 w0 (VCnt wI f t n X TS kd bv rest lv Q rq row top) (StJ (fun k => k = X.b \/ k = X.mb) (BkJ wI X TS)) 5 := by
 rintro E w hc hf hE hV hN hS _ ⟨⟩
 simp only [opsCnt, gA, gS, gZ]
 have b0 : E (.tmp 0) = .pointer (some ⟨f, 0, none⟩) := (hE 0 (by kernel_rfl)).trans g90
 clear g90;refine Fre.Does.value (v := .pointer (some ⟨f, 0, none⟩)) (w' := w) ?_ ⟨rfl, StJ.refl _⟩
 go_simp
theorem stCnt_6 : Fre.StepB Tryz.prog opsCnt.1 a0 w0 (VCnt wI f t n X TS kd bv rest lv Q rq row top) (StJ (fun k => k = X.b \/ k = X.mb) (BkJ wI X TS)) 6 := by
 rintro E w hc hf hE hV hN hS _ ⟨⟩
 simp only [opsCnt, gA, gS, gZ]
 have d5 : E (.tmp 15) = .pointer (some ⟨f, 0, none⟩) := hV 5 15 (by kernel_rfl) (by kernel_rfl)
 refine Fre.Does.value (v := .pointer (some ⟨f, 0, none⟩)) (w' := w) ?_ ⟨rfl, StJ.refl _⟩
 go_simp
theorem stCnt_7 : Fre.StepB Tryz.prog opsCnt.1 a0 w0 (VCnt wI f t n X TS kd bv rest lv Q rq row top) (StJ (fun k => k = X.b \/ k = X.mb) (BkJ wI X TS)) 7 := by
 rintro E w hc hf hE hV hN hS _ ⟨⟩
 simp only [opsCnt, gA, gS, gZ]
 have d6 : E (.tmp 16) = .pointer (some ⟨f, 0, none⟩) := hV 6 16 (by kernel_rfl) (by kernel_rfl)
 refine Fre.Does.value (v := .pointer (some ⟨f, 0, none⟩)) (w' := w) ?_ ⟨rfl, StJ.refl _⟩
 go_simp
theorem stCnt_8 : Fre.StepB Tryz.prog opsCnt.1 a0 w0 (VCnt wI f t n X TS kd bv rest lv Q rq row top) (StJ (fun k => k = X.b \/ k = X.mb) (BkJ wI X TS)) 8 := by
 rintro E w hc hf hE hV hN hS _ ⟨⟩
 simp only [opsCnt, gA, gS, gZ]
 have d7 : E (.tmp 17) = .pointer (some ⟨f, 0, none⟩) := hV 7 17 (by kernel_rfl) (by kernel_rfl)
 refine Fre.Does.value (v := .pointer (some ⟨f, 1, none⟩)) (w' := w) ?_ ⟨rfl, StJ.refl _⟩
 go_simp
theorem stCnt_9 : Fre.StepB Tryz.prog opsCnt.1 a0 w0 (VCnt wI f t n X TS kd bv rest lv Q rq row top) (StJ (fun k => k = X.b \/ k = X.mb) (BkJ wI X TS)) 9 := by
 rintro E w hc hf hE hV hN hS _ ⟨⟩
 simp only [opsCnt, gA, gS, gZ]
 have d8 : E (.tmp 18) = .pointer (some ⟨f, 1, none⟩) := hV 8 18 (by kernel_rfl) (by kernel_rfl)
 have c1 : w.cell? ⟨f, 1, none⟩ = some (.pointer (some ⟨X.t, 0, none⟩)) := by rw [cells_at ((hS.1.block f (lt_blk h0) hfb).trans h0) 1, foundA_base X kd bv rest 1 (by omega)]; rfl
 refine Fre.Does.value (v := .pointer (some ⟨X.t, 0, none⟩)) (w' := w) ?_ ⟨rfl, StJ.refl _⟩
 go_simp
theorem stCnt_10 : Fre.StepB Tryz.prog opsCnt.1 a0 w0 (VCnt wI f t n X TS kd bv rest lv Q rq row top) (StJ (fun k => k = X.b \/ k = X.mb) (BkJ wI X TS)) 10 := by
 rintro E w hc hf hE hV hN hS _ ⟨⟩
 simp only [opsCnt, gA, gS, gZ]
 have d9 : E (.tmp 19) = .pointer (some ⟨X.t, 0, none⟩) := hV 9 19 (by kernel_rfl) (by kernel_rfl)
 obtain ⟨cl9, E9, j9⟩ := hS.2 hJ0
 refine Fre.Does.enter (f := 158) (args := #[.pointer (some ⟨X.t, 0, none⟩)]) (w' := w) ?_ ((trRead_c j9.at'.rl w j9.at'.tr).mono ?_)
 ·go_simp
 ·rintro e w' ⟨rfl, hk'⟩
  exact ⟨_, rfl, rfl, StJ.of_below BkJ.below hk'⟩
theorem stCnt_11 : Fre.StepB Tryz.prog opsCnt.1 a0 w0 (VCnt wI f t n X TS kd bv rest lv Q rq row top) (StJ (fun k => k = X.b \/ k = X.mb) (BkJ wI X TS)) 11 := by
 rintro E w hc hf hE hV hN hS _ ⟨⟩
 simp only [opsCnt, gA, gS, gZ]
 have d10 : E (.tmp 20) = .agg (regA X.c X.R) := hV 10 20 (by kernel_rfl) (by kernel_rfl)
 obtain ⟨cl9, E9, j9⟩ := hJ0
 have hfr := field_reg X.c X.R j9.at'.rl w
 refine Fre.Does.value (v := .int .u64 (X.c : Int)) (w' := w) ?_ ⟨rfl, StJ.refl _⟩
 unfold execOp;simp only [d10, Sem.run_bind, hfr, Result.andThen_ok]
 rfl
theorem stCnt_12 : Fre.StepB Tryz.prog opsCnt.1 a0 w0 (VCnt wI f t n X TS kd bv rest lv Q rq row top) (StJ (fun k => k = X.b \/ k = X.mb) (BkJ wI X TS)) 12 := by
 rintro E w hc hf hE hV hN hS _ ⟨⟩
 simp only [opsCnt, gA, gS, gZ]
 have d11 : E (.tmp 21) = .int .u64 (X.c : Int) := hV 11 21 (by kernel_rfl) (by kernel_rfl)
 have e1 : IntKind.u64.wrap ((X.c : Int) + 1) = (X.c : Int) + 1 := by rw [IntKind.wrap_u64]; omega
 refine Fre.Does.value (v := .int .u64 ((X.c : Int) + 1)) (w' := w) ?_ ⟨rfl, StJ.refl _⟩
 go_simp
theorem stCnt_13 (g93 : a0.tmps.getD 3 undef = .pointer (some ⟨t, 0, none⟩)) : Fre.StepB Tryz.prog opsCnt.1 a0 w0 (VCnt wI f t n X TS kd bv rest lv Q rq row top) (StJ (fun k => k = X.b \/ k = X.mb) (BkJ wI X TS)) 13 := by
 rintro E w hc hf hE hV hN hS _ ⟨⟩
 simp only [opsCnt, gA, gS, gZ]
 have b3 : E (.tmp 3) = .pointer (some ⟨t, 0, none⟩) := (hE 3 (by kernel_rfl)).trans g93
 clear g93;refine Fre.Does.value (v := .pointer (some ⟨t, 0, none⟩)) (w' := w) ?_ ⟨rfl, StJ.refl _⟩
 go_simp
theorem stCnt_14 : Fre.StepB Tryz.prog opsCnt.1 a0 w0 (VCnt wI f t n X TS kd bv rest lv Q rq row top) (StJ (fun k => k = X.b \/ k = X.mb) (BkJ wI X TS)) 14 := by
 rintro E w hc hf hE hV hN hS _ ⟨⟩
 simp only [opsCnt, gA, gS, gZ]
 have d13 : E (.tmp 23) = .pointer (some ⟨t, 0, none⟩) := hV 13 23 (by kernel_rfl) (by kernel_rfl)
 obtain ⟨cl9, E9, j9⟩ := hS.2 hJ0
 have hT := (hT0.on.chg hS.1 hTd).holds
 refine Fre.Does.enter (f := 207) (args := #[.pointer (some ⟨t, 0, none⟩)]) (w' := w) ?_ ((treeTop_c rq row hn hQ20 hlast hrow w hT j9.at'.bk).mono ?_)
 ·go_simp
 ·rintro e w' ⟨rfl, hb'⟩
  rw [<- htop] at hb'
  obtain ⟨_, _, _, hch, _⟩ := id hb'
  exact ⟨_, rfl, (by rw [htop]; rfl), hch, fun _ => BkJ.sum j9 hx hb'⟩
theorem stCnt_15 : Fre.StepB Tryz.prog opsCnt.1 a0 w0 (VCnt wI f t n X TS kd bv rest lv Q rq row top) (StJ (fun k => k = X.b \/ k = X.mb) (BkJ wI X TS)) 15 := by
 rintro E w hc hf hE hV hN hS _ ⟨⟩
 simp only [opsCnt, gA, gS, gZ]
 have d12 : E (.tmp 22) = .int .u64 ((X.c : Int) + 1) := hV 12 22 (by kernel_rfl) (by kernel_rfl)
 have d14 : E (.tmp 24) = .agg (bA (sumN (rootT n top.1))) := hV 14 24 (by kernel_rfl) (by kernel_rfl)
 have hbt := built_reg (X.c + 1) (sumN (rootT n top.1)) (sumN_good (rootT n top.1)).1
 rw [show ((X.c + 1 : Nat) : Int) = (X.c : Int) + 1 from by push_cast; rfl] at hbt
 have hb2 := run_build (P := Tryz.prog) w 116 #[(0, .int .u64 ((X.c : Int) + 1)), (1, .agg (bA (sumN (rootT n top.1))))] _ hbt
 refine Fre.Does.value (v := .agg (regA (X.c + 1) (sumN (rootT n top.1)))) (w' := w) ?_ ⟨rfl, StJ.refl _⟩
 unfold execOp;simp only [d12, d14, List.map_toArray, List.map_cons, List.map_nil, Sem.run_bind, hb2, Result.andThen_ok]
 rfl
variable (wI f t n X TS kd bv rest lv Q rq row top w0)
theorem regionCnt {QQ : Exit -> Act -> World -> Prop} (hQ : ∀ (vs : Nat -> Value) w, (∀ j, j < 16 -> VCnt wI f t n X TS kd bv rest lv Q rq row top j (vs j) w) -> (StJ (fun k => k = X.b \/ k = X.mb) (BkJ wI X TS)) w0 w -> wpList Tryz.prog opsCnt.1 QQ (opsCnt.1.toList.drop 16) ⟨#[.pointer (some ⟨f, 0, none⟩), u1, u2, .pointer (some ⟨t, 0, none⟩), u4, u5, u6, u7, u8, u9, vs 0, vs 1, vs 2, vs 3, vs 4, vs 5, vs 6, vs 7, vs 8, vs 9, vs 10, vs 11, vs 12, vs 13, vs 14, vs 15, u26], []⟩ w) : (Code.region 2 opsCnt.1 true).wp Tryz.prog QQ ⟨#[.pointer (some ⟨f, 0, none⟩), u1, u2, .pointer (some ⟨t, 0, none⟩), u4, u5, u6, u7, u8, u9, u10, u11, u12, u13, u14, u15, u16, u17, u18, u19, u20, u21, u22, u23, u24, u25, u26], []⟩ w0 := by
 refine Fre.region_tailS (St := (StJ (fun k => k = X.b \/ k = X.mb) (BkJ wI X TS))) StJ.trans (StJ.of_below BkJ.below (Below.refl _ _).drew) 27 16 (by kernel_rfl) fitCnt rfl tailCnt (by rw [sizeCnt]; omega) (VCnt wI f t n X TS kd bv rest lv Q rq row top) (kpCnt wI f t n X TS kd bv rest lv Q rq row top) (fun i hi => ?_) (fun vs w h1 h2 => ?_)
 case refine_2 =>
  have h9 := hQ vs w h1 h2
  exact Fre.fe (p := fun t => wpList Tryz.prog opsCnt.1 QQ (opsCnt.1.toList.drop 16) ⟨t, []⟩ w) h9 (by kernel_rfl)
 rcases cs16 hi with rfl | rfl | rfl | rfl | rfl | rfl | rfl | rfl | rfl | rfl | rfl | rfl | rfl | rfl | rfl | rfl
 ·exact stCnt_0 h0 hfb hJ0 hT0 hTd hn hQ20 hlast hrow htop hx hc9 rfl
 ·exact stCnt_1 h0 hfb hJ0 hT0 hTd hn hQ20 hlast hrow htop hx hc9
 ·exact stCnt_2 h0 hfb hJ0 hT0 hTd hn hQ20 hlast hrow htop hx hc9
 ·exact stCnt_3 h0 hfb hJ0 hT0 hTd hn hQ20 hlast hrow htop hx hc9
 ·exact stCnt_4 h0 hfb hJ0 hT0 hTd hn hQ20 hlast hrow htop hx hc9
 ·exact stCnt_5 h0 hfb hJ0 hT0 hTd hn hQ20 hlast hrow htop hx hc9 rfl
 ·exact stCnt_6 h0 hfb hJ0 hT0 hTd hn hQ20 hlast hrow htop hx hc9
 ·exact stCnt_7 h0 hfb hJ0 hT0 hTd hn hQ20 hlast hrow htop hx hc9
 ·exact stCnt_8 h0 hfb hJ0 hT0 hTd hn hQ20 hlast hrow htop hx hc9
 ·exact stCnt_9 h0 hfb hJ0 hT0 hTd hn hQ20 hlast hrow htop hx hc9
 ·exact stCnt_10 h0 hfb hJ0 hT0 hTd hn hQ20 hlast hrow htop hx hc9
 ·exact stCnt_11 h0 hfb hJ0 hT0 hTd hn hQ20 hlast hrow htop hx hc9
 ·exact stCnt_12 h0 hfb hJ0 hT0 hTd hn hQ20 hlast hrow htop hx hc9
 ·exact stCnt_13 h0 hfb hJ0 hT0 hTd hn hQ20 hlast hrow htop hx hc9 rfl
 ·exact stCnt_14 h0 hfb hJ0 hT0 hTd hn hQ20 hlast hrow htop hx hc9
 ·exact stCnt_15 h0 hfb hJ0 hT0 hTd hn hQ20 hlast hrow htop hx hc9
end
theorem tree_last {l : List Dg} {n : Nat} {Q : List QRow} (hl : l.length = n) (hn : n <= 1024) (hQ : Q.map (·.2) = (List.range (depthN n + 1)).map (rowAt (padD l))) : Q.length = depthN n + 1 /\ ∃ rq row, Q[Q.length - 1]? = some (rq, row) /\ row.length = 1 /\ row.getD 0 zeroD = topD l := by
 have h1 : Q.length = depthN n + 1 := by have h := congrArg List.length hQ; simpa using h
 have h2 : depthN n < Q.length := by omega
 refine ⟨h1, (Q[depthN n]'h2).1, (Q[depthN n]'h2).2, ?_, ?_⟩
 ·rw [h1, Nat.add_sub_cancel, List.getElem?_eq_getElem h2]
 ·have h3 : (Q.map (·.2))[depthN n]? = some (Q[depthN n]'h2).2 := by rw [List.getElem?_map, List.getElem?_eq_getElem h2]; rfl
  rw [hQ, List.getElem?_map, List.getElem?_range (by omega)] at h3
  have h4 : rowAt (padD l) (depthN n) = (Q[depthN n]'h2).2 := by simpa using h3
  rw [<- h4];have h5 := padD_len l (by omega)
  rw [hl] at h5;refine ⟨?_, ?_⟩
  ·rw [rowAt_len (padD l) (depthN n) h5 (depthN n) (Nat.le_refl _), Nat.sub_self]
  ·unfold topD; rw [hl]
def cntTs (BL : List Bl) (nb : Nat) : List (List Nat) := leafTs BL nb ++ treeTexts (leafDs BL nb) ++ [rootT nb (topD (leafDs BL nb)).1]
theorem fcounts_c {X : BaseR} {f : Nat} {kd : Int} {bv : Value} {BL : List Bl} {rest : Array Value} (nb : Nat) (hBL : BL.length = nb) (hnb : nb = leavesN X.n) (hc : X.c + 1 < 18446744073709551616) (w : World) (h : BaseAt w X) (hF : FndAt w f X kd bv BL rest) (hd : ∀ i, fndS f bv BL i -> ¬ X.S i) :
  Calls Tryz.prog 165 #[.pointer (some ⟨f, 0, none⟩)] w fun r w' => r = .returned (.int .i64 0) /\ ∃ av' cl E, BaseTo w w' X { X with av := av', c := X.c + 1, R := sumN (rootT nb (topD (leafDs BL nb)).1), cl := cl, E := E, TS := X.TS ++ cntTs BL nb } := by
 have hgo := geo_ok h.geo
 have hn98 : 3 <= nb /\ nb <= 98 := by
  have h2 := leavesN_le X.n hgo.2.1
  refine ⟨?_, by omega⟩
  rw [hnb]; unfold leavesN epochsN sealedN; omega
 have hpl := fplanted_c nb hBL hnb w h hF hd
 have HPL := Lib.hid hpl;have H := Lib.hid h;have HF := Lib.hid hF;have HD := Lib.hid hd;have HC := Lib.hid hc;have HN := Lib.hid hn98;clear h hF hd hBL hnb hgo hn98 hpl hc
 go_enter Tryz.func165, Tryz.ntmps165
 go_wp2_with fail
 refine HPL.out.mono ?_
 rintro r w1 ⟨t, q, lv, Q, rfl, cl1, E1, hB1, hT1, hQ1, hq1, _, htd1, _⟩
 obtain ⟨top, htop⟩ : ∃ top, top = topD (leafDs BL nb) := ⟨_, rfl⟩
 have hB2 := hB1.more (TS := X.TS ++ cntTs BL nb) (fun x hx => by unfold cntTs; rw [<- List.append_assoc, <- List.append_assoc]; exact List.mem_append_left _ hx)
 obtain ⟨hQl, rq, row, hlast, hrow1, hrow2⟩ := tree_last (leafDs_len BL nb) (by have := HN.out; omega) hQ1
 obtain ⟨hF1, hd1⟩ := hB1.keep HF.out.on HD.out
 have hfb : ¬ (f = X.b \/ f = X.mb) := fun e => HD.out f (.inl rfl) (.inr (.inr (.inr (by
  rcases e with e | e
  ·exact .inl e
  ·exact .inr (.inr (.inl e))))))
 have hlb : X.b < w.heap.size /\ X.mb < w.heap.size := ⟨H.out.bk.on.lt _ (.inl rfl), H.out.bk.on.lt _ (.inr (.inr (.inl rfl)))⟩
 have hTd : ∀ k, treeS t lv Q k -> ¬ (k = X.b \/ k = X.mb) := fun k hk e => by
  have := (htd1 k hk).1
  rcases e with e | e <;> omega
 have hd10 := (depthN_spec nb (by have := HN.out; omega)).2.2
 have HP := Lib.hid (And.intro (show BkJ w X (X.TS ++ cntTs BL nb) w1 from ⟨cl1, E1, hB2⟩) (And.intro hF1.holds.blk (And.intro hfb (And.intro hT1 (And.intro hTd (And.intro (show Q.length <= 20 by omega) hlast))))))
 have HR := Lib.hid (And.intro hrow1 (And.intro (htop.trans hrow2.symm) (show rootT nb top.1 ∈ X.TS ++ cntTs BL nb by rw [htop]; unfold cntTs; exact List.mem_append_right _ (List.mem_append_right _ (List.mem_singleton.2 rfl)))))
 have HTOP := Lib.hid htop;clear hB1 hT1 hQ1 hq1 htd1 htop hB2 hQl hlast hrow1 hrow2 hF1 hd1 hfb hlb hTd hd10 HPL
 go_upto_region 2 with fail
 refine regionCnt w f t nb X (X.TS ++ cntTs BL nb) kd bv rest lv Q rq row top w1 HP.out.2.1 HP.out.2.2.1 HP.out.1 HP.out.2.2.2.1 HP.out.2.2.2.2.1 (by have := HN.out; omega) HP.out.2.2.2.2.2.1 HP.out.2.2.2.2.2.2 (by rw [HR.out.1]; decide) HR.out.2.1 HR.out.2.2 HC.out ?_
 intro vs w2 hv hk;have e4 : vs 4 = .pointer (some ⟨X.t, 0, none⟩) := hv 4 (by omega)
 have e15 : vs 15 = .agg (regA (X.c + 1) (sumN (rootT nb top.1))) := hv 15 (by omega)
 generalize vs 4 = x4 at e4
 generalize vs 15 = x15 at e15
 subst e4 e15
 obtain ⟨cl3, E3, hB3⟩ := hk.2 HP.out.1
 have hset := trSet_c (c := X.c) (c' := X.c + 1) (R := X.R) (R' := sumN (rootT nb top.1)) H.out.rl (sumN_good _).1 (Nat.lt_succ_self _) w2 hB3.at'.tr hB3.at'.dev hB3.at'.dt
 have HSET := Lib.hid hset;have HB3 := Lib.hid hB3;clear hset hB3 hv hk;go_wp2_with fail
 refine HSET.out.mono ?_
 rintro r w5 ⟨rfl, hT5, av5, hd5, hc5, hn5⟩
 have HT5 := Lib.hid (HB3.out.trans (BaseAt.tr_to (X := plX X cl3 E3 (X.TS ++ cntTs BL nb)) HB3.out.at' hd5 hT5 (sumN_good _).1 hc5 hn5))
 clear hT5 hd5 hc5 hn5 HSET HB3;go_wp2
 go_ret
 refine ⟨rfl, av5, cl3, E3, ?_⟩
 rw [<- HTOP.out];exact HT5.out
theorem foundA_set7 (X : BaseR) (kd : Int) (bv bv' : Value) (rest : Array Value) : (foundA X kd bv rest).setIfInBounds 7 bv' = foundA X kd bv' rest := by
 apply Array.ext_getElem?
 intro j;rw [Array.getElem?_setIfInBounds]
 by_cases e : 7 = j
 ·subst e
  rw [if_pos rfl, foundA_bv, if_pos]
  have h := foundA_bv X kd bv rest
  exact (Array.getElem?_eq_some_iff.1 h).1
 ·rw [if_neg e]
  unfold foundA;have e1 : ∀ b : Value, (baseV X ++ (#[.int .i64 kd, b] ++ rest))[j]? = if j < 6 then (baseV X)[j]? else if j - 6 < 2 then (#[Value.int .i64 kd, b] : Array Value)[j - 6]? else rest[j - 6 - 2]? := fun b => by
   rw [Array.getElem?_append, Array.getElem?_append]; rfl
  rw [e1, e1]
  by_cases h : j < 6
  ·rw [if_pos h, if_pos h]
  ·rw [if_neg h, if_neg h]
   by_cases h2 : j = 6
   ·subst h2; rfl
   ·rw [if_neg (by omega), if_neg (by omega)]
theorem FndAt.push {w1 w2 : World} {f : Nat} {X : BaseR} {kd : Int} {bv bv' : Value} {BL : List Bl} {rest : Array Value} {q k : Nat} {l : List Nat} (hk : BL.length = k) (h : FndAt w1 f X kd bv BL rest) (hq : w1.heap[q]? = some (.cells (bA l) 5 (0, 0))) (hl : l.length = 256 /\ ∀ y ∈ l, y < 256) (hqt : q ≠ f /\ bv.ownBlock ≠ some q)
  (hO' : w2.ownsRow 0 22 1 bv' (k + 1) (cellsK blE (BL.map (·.1) ++ [q]))) (hg : w1.grownBy w2 bv.ownBlock) (hat : bv'.ownBlock = bv.ownBlock \/ bv'.ownBlock = some w1.heap.size) :
  FndAt (w2.setCell ⟨f, 7, none⟩ bv') f X kd bv' (BL ++ [(q, l)]) rest /\ Chg (fun k => k = f \/ bv.ownBlock = some k) w1 (w2.setCell ⟨f, 7, none⟩ bv') := by
 have hO : w2.ownsRow 0 22 1 bv' (BL.length + 1) (cellsK blE ((BL ++ [(q, l)]).map (·.1))) := by
  subst hk;rw [List.map_append]; exact hO'
 have hlt := lt_blk h.blk
 have hc1 : Chg (fun k => bv.ownBlock = some k) w1 w2 := Chg.grown hg fun k hk _ => hk
 have hc2 : Chg (fun k => k = f) w2 (w2.setCell ⟨f, 7, none⟩ bv') := Chg.setCell w2 f 7 bv' rfl
 have hne : bv'.ownBlock ≠ some f := by
  rcases hat with e | e
  ·rw [e]; exact h.ne.1
  ·rw [e]; intro e2; have e3 := Option.some.inj e2; omega
 have hb2 := (hc1.block f hlt (fun e => h.ne.1 e)).trans h.blk
 have hrow : ∀ x ∈ BL ++ [(q, l)], (w1.heap[x.1]? = some (.cells (bA x.2) 5 (0, 0)) /\ x.2.length = 256 /\ ∀ y ∈ x.2, y < 256) /\ x.1 ≠ f /\ bv.ownBlock ≠ some x.1 := fun x hx => by
  rcases List.mem_append.1 hx with hx | hx
  ·exact ⟨h.rows x hx, h.ne.2 x hx⟩
  ·obtain rfl : x = (q, l) := by simpa using hx
   exact ⟨⟨hq, hl⟩, hqt⟩
 refine ⟨⟨?_, ((On.own (by rw [List.length_append]; exact hO)).chg hc2 (fun k hk e => hne (by rw [hk, e]))).holds, fun x hx => ?_, hne, fun x hx => ⟨(hrow x hx).2.1, ?_⟩⟩, ?_⟩
 ·have h1 := block_at hb2 7 bv'
  rw [foundA_set7] at h1; exact h1
 ·obtain ⟨⟨h1, h5⟩, h2, h3⟩ := hrow x hx
  have h4 := (hc1.block x.1 (lt_blk h1) h3).trans h1
  exact ⟨(hc2.block x.1 (lt_blk h4) h2).trans h4, h5⟩
 ·obtain ⟨⟨h1, h5⟩, h2, h3⟩ := hrow x hx
  rcases hat with e | e
  ·rw [e]; exact h3
  ·rw [e]; intro e2; have e3 := lt_blk h1; have e4 := Option.some.inj e2; omega
 ·exact (hc1.mono fun k _ hk => .inr hk).trans' (hc2.mono fun k _ hk => .inl hk)
theorem FndAt.first {w1 : World} {f : Nat} {X : BaseR} {kd : Int} {rest : Array Value} {q : Nat} {l : List Nat} (h : FndAt w1 f X kd (.slice none 0 0) [] rest) (hq : w1.heap[q]? = some (.cells (bA l) 5 (0, 0))) (hl : l.length = 256 /\ ∀ y ∈ l, y < 256) (hqf : q ≠ f) :
  FndAt ((w1.alloc (.cells #[blV q] 22)).setCell ⟨f, 7, none⟩ (.slice (some ⟨w1.heap.size, 0, none⟩) 1 1)) f X kd (.slice (some ⟨w1.heap.size, 0, none⟩) 1 1) [(q, l)] rest /\ Chg (fun k => k = f) w1 ((w1.alloc (.cells #[blV q] 22)).setCell ⟨f, 7, none⟩ (.slice (some ⟨w1.heap.size, 0, none⟩) 1 1)) := by
 have hO : (w1.alloc (.cells #[blV q] 22)).ownsRow 0 22 1 (.slice (some ⟨w1.heap.size, 0, none⟩) 1 1) (0 + 1) (cellsK blE (([] : List Bl).map (·.1) ++ [q])) :=
  ⟨rfl, .inr ⟨w1.heap.size, 1, #[blV q], rfl, Nat.zero_le _, heap_new' _ _, Nat.le_refl _, by decide, rfl, rfl⟩⟩
 obtain ⟨h1, h2⟩ := FndAt.push (k := 0) (q := q) (l := l) rfl h hq hl ⟨hqf, nofun⟩ hO (World.grownBy_alloc _ _ _) (.inr rfl)
 exact ⟨h1, h2.mono fun k _ hk => hk.elim id (fun e => by cases e)⟩
structure BlTo (w0 wr : World) (X0 X : BaseR) (f : Nat) (kd : Int) (bv : Value) (BL : List Bl) (rest : Array Value) (ge : Nat) (A : Array Value) (T : List (List Nat)) : Prop where
 at' : BaseAt wr X
 chg : Chg (fun k => X0.S k \/ k = f) w0 wr
 new : ∀ k, X.S k -> X0.S k \/ w0.heap.size <= k
 fnd : FndAt wr f X kd bv BL rest
 txt : BL.map (·.2) = T
 apart : ∀ i, fndS f bv BL i -> ¬ X.S i /\ (i = f \/ w0.heap.size <= i) /\ i ≠ ge
 arr : wr.heap[ge]? = some (.cells A 47 (0, 0))
 arrd : ¬ X.S ge /\ w0.heap.size <= ge
theorem BlTo.step {w0 wr w1 : World} {X0 X Y : BaseR} {f : Nat} {kd : Int} {bv : Value} {BL : List Bl} {rest : Array Value} {ge : Nat} {A : Array Value} {T : List (List Nat)} (h : BlTo w0 wr X0 X f kd bv BL rest ge A T) (k : BaseTo wr w1 X Y) (hY : baseV Y = baseV X) : BlTo w0 w1 X0 Y f kd bv BL rest ge A T := by
 obtain ⟨h1, h2⟩ := k.keep h.fnd.on fun i hi => (h.apart i hi).1
 obtain ⟨h3, h4⟩ := k.keep (On.block h.arr) fun i hi => by rw [hi]; exact h.arrd.1
 refine ⟨k.at', h.chg.trans k.chg fun i hi => ?_, fun i hi => ?_, h1.holds.re hY, h.txt, fun i hi => ⟨h2 i hi, (h.apart i hi).2⟩, h3.holds, h4 ge rfl, h.arrd.2⟩
 ·rcases h.new i hi with e | e
  ·exact .inl (.inl e)
  ·exact .inr e
 ·rcases k.new i hi with e | e
  ·exact h.new i e
  ·exact .inr (Nat.le_trans h.chg.size e)
theorem BlTo.below {w0 wr w1 : World} {X0 X : BaseR} {f : Nat} {kd : Int} {bv : Value} {BL : List Bl} {rest : Array Value} {ge : Nat} {A : Array Value} {T : List (List Nat)} (h : BlTo w0 wr X0 X f kd bv BL rest ge A T) (hb : Below wr.heap.size wr w1) : BlTo w0 w1 X0 X f kd bv BL rest ge A T :=
 h.step (BaseTo.below h.at' hb) rfl
theorem BlTo.set {w0 wr : World} {X0 X : BaseR} {f : Nat} {kd : Int} {bv : Value} {BL : List Bl} {rest : Array Value} {ge : Nat} {A : Array Value} {T : List (List Nat)} (h : BlTo w0 wr X0 X f kd bv BL rest ge A T) (j : Nat) (v : Value) : BlTo w0 (wr.setCell ⟨ge, j, none⟩ v) X0 X f kd bv BL rest ge (A.setIfInBounds j v) T := by
 have hc : Chg (fun k => k = ge) wr (wr.setCell ⟨ge, j, none⟩ v) := Chg.setCell wr ge j v rfl
 refine ⟨(h.at'.on.chg hc fun i hi e => h.arrd.1 (e ▸ hi)).holds, h.chg.trans hc fun i e => .inr (e ▸ h.arrd.2), h.new, (h.fnd.on.chg hc fun i hi e => (h.apart i hi).2.2 e).holds, h.txt, h.apart, block_at h.arr j v, h.arrd⟩
theorem BlTo.push {w0 w1 w2 : World} {X0 X : BaseR} {f : Nat} {kd : Int} {bv bv' : Value} {BL : List Bl} {rest : Array Value} {ge : Nat} {A : Array Value} {T : List (List Nat)} {q k : Nat} {l : List Nat} (h : BlTo w0 w1 X0 X f kd bv BL rest ge A T) (hk : BL.length = k) (hq : w1.heap[q]? = some (.cells (bA l) 5 (0, 0))) (hl : l.length = 256 /\ ∀ y ∈ l, y < 256) (hqS : ¬ X.S q) (hq0 : w0.heap.size <= q) (hqt : q ≠ f /\ bv.ownBlock ≠ some q) (hqg : q ≠ ge)
  (hO' : w2.ownsRow 0 22 1 bv' (k + 1) (cellsK blE (BL.map (·.1) ++ [q]))) (hg : w1.grownBy w2 bv.ownBlock) (hat : bv'.ownBlock = bv.ownBlock \/ bv'.ownBlock = some w1.heap.size) :
  BlTo w0 (w2.setCell ⟨f, 7, none⟩ bv') X0 X f kd bv' (BL ++ [(q, l)]) rest ge A (T ++ [l]) := by
 obtain ⟨h1, h2⟩ := FndAt.push hk h.fnd hq hl hqt hO' hg hat
 have hd : ∀ i, (i = f \/ bv.ownBlock = some i) -> fndS f bv BL i := fun i e => e.elim .inl fun e => .inr (.inl e)
 refine ⟨(h.at'.on.chg h2 fun i hi e => (h.apart i (hd i e)).1 hi).holds, h.chg.trans h2 fun i e => ?_, h.new, h1, by rw [List.map_append, h.txt]; rfl, ?_, (h2.block ge (lt_blk h.arr) fun e => (h.apart ge (hd ge e)).2.2 rfl).trans h.arr, h.arrd⟩
 ·rcases (h.apart i (hd i e)).2.1 with e | e
  ·exact .inl (.inr e)
  ·exact .inr e
 rintro i (rfl | hi | ⟨x, hx, rfl⟩)
 ·exact h.apart _ (.inl rfl)
 ·rcases hat with e | e
  ·exact h.apart i (.inr (.inl (e ▸ hi)))
  ·rw [e] at hi
   have hi := Option.some.inj hi
   subst hi;exact ⟨fun e => Nat.lt_irrefl _ (h.at'.lt _ e), .inr h.chg.size, fun e => by have := lt_blk h.arr; omega⟩
 ·rcases List.mem_append.1 hx with hx | hx
  ·exact h.apart _ (.inr (.inr ⟨x, hx, rfl⟩))
  ·obtain rfl : x = (q, l) := by simpa using hx
   exact ⟨hqS, .inr hq0, hqg⟩
def blankTs (n x : Nat) (key : List Nat) (e : Nat) : List (List Nat) := superB n x :: ((List.range (epochsN n)).map (fun t => epochB t (List.replicate (sealedN n) e)) ++ (List.range (sealedN n)).map (blankB key e))
theorem blankTs_len (n x : Nat) (key : List Nat) (e : Nat) : (blankTs n x key e).length = leavesN n := by simp [blankTs, leavesN]; omega
end Go.Proofs.YtnmdjggdgakeoaaGreat
