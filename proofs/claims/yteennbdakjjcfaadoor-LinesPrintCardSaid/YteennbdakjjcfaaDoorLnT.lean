/- The reference's Words and value. Printed by gen_lnt.py. -/
import Derived.Test.YteennbdakjjcfaaDoorLnS
set_option linter.unusedVariables false
set_option linter.unusedSimpArgs false
namespace Go.Proofs.YteennbdakjjcfaaDoor
open Go Go.RowKit Go.Lib
theorem wpList_append_str {w : World} {ops : Array Oper} {rest : List Oper} {o : Oper} {A : Act} {Q : Exit → Act → World → Prop} (hgd : o.guard = none) (s x : Operand)
    (ho : o.op = .call { callee := .builtin .append, args := #[s, x], argTypes := #[23, 23] }) {base n : Nat} {v : Value} {xs : List Value} (hs : A.eval s = v) (hown : w.ownsRow base 9 1 v n xs)
    {g : Nat} {u : List UInt8} (hx : A.eval x = .slice (some ⟨g, 0, none⟩) 1 1) (hu : w.cell? ⟨g, 0, none⟩ = some (sV u)) (h63 : n + 1 ≤ 1000000) (hbase : base ≤ w.heap.size)
    (h : ∀ v' w', w'.ownsRow base 9 1 v' (n + 1) (xs ++ [sV u]) → w.grownBy w' v.ownBlock → wpList Tryd.prog ops Q rest (A.put o.dst v') w') : wpList Tryd.prog ops Q (o :: rest) A w :=
  wpList_plain hgd fun _ hK => by
    obtain ⟨i0, hi, hz0, hz1, hz2⟩ := info_parts strinfo
    obtain ⟨v', w', h1, h2, h3, _⟩ := run_append_own_at (P := Tryd.prog) w base 23 o.type 9 i0 _ 1 16 Tryd.underlying23 hi hz0 hz1 hz2 rfl (by omega) v n xs hown ⟨g, 0, none⟩ 1 1 [sV u] rfl
      (fun j y hj => by
        have hj0 : j = 0 := by have := (List.getElem?_eq_some_iff.1 hj).1; simpa using this
        subst hj0
        rw [add_plain]
        exact hu.trans hj) (by intro u' hu'; simp at hu'; subst hu'; rfl) (by unfold maxLen; omega) (by omega) hbase
    unfold Oper.wp execOp
    simp only [ho, resolve, invoke, builtin, Sem.run_bind, Sem.run_pure, Result.andThen_ok, List.map_toArray, List.map_cons, List.map_nil, hs, hx, h1]
    exact hK _ _ (h v' w' h2 h3)
theorem fill_str (u : List UInt8) (B : Array Value) (hB : B.size = 1) : Instr.fill (fun i => some (i * 1, 1)) B [(0, sV u)] = some #[sV u] := by
  obtain ⟨l⟩ := B
  match l, hB with
  | [b0], _ =>
    unfold Instr.fill sV
    simp [Instr.fill, Value.cells]
theorem wpList_build_str {w : World} {ops : Array Oper} {rest : List Oper} {o : Oper} {A : Act} {Q : Exit → Act → World → Prop} (hgd : o.guard = none) (x : Operand) (ho : o.op = .buildSlice 23 1 #[(0, x)])
    {u : List UInt8} (hx : A.eval x = sV u)
    (h : wpList Tryd.prog ops Q rest (A.put o.dst (.slice (some ⟨w.heap.size, 0, none⟩) 1 1)) (w.alloc (.cells #[sV u] 9))) : wpList Tryd.prog ops Q (o :: rest) A w := by
  obtain ⟨i0, hi, hz0, hz1, hz2⟩ := info_parts strinfo
  refine wpList_buildSlice hgd 23 9 1 _ ho #[sV u] i0 _ Tryd.underlying23 hi hz0 (by rw [hz1]; decide) (by rw [hz1]; decide) ?_ h
  rw [hz1]
  rw [show (Array.map (fun x : Nat × Operand => match x with | (i, x) => (i, A.eval x)) #[(0, x)]).toList = [(0, A.eval x)] by simp, hx]
  exact fill_str u _ (by simp)
theorem stripH_cons (c : UInt8) (t : List UInt8) : stripH (c :: t) = if c = 35 then [] else c :: stripH t := by
  unfold stripH
  rw [List.takeWhile_cons]
  by_cases h : c = 35
  · rw [if_pos h, h]; rfl
  · rw [if_neg h, if_pos (by simpa using h)]
theorem strip_drop {s : List UInt8} {i : Nat} (hi : i < s.length) : stripH (s.drop i) = if s.getD i 0 = 35 then [] else s.getD i 0 :: stripH (s.drop (i + 1)) := by
  rw [List.drop_eq_getElem_cons hi, stripH_cons, List.getD_eq_getElem?_getD, List.getElem?_eq_getElem hi]; rfl
theorem wordsB_nil (w : List UInt8) : wordsB [] w = if w = [] then [] else [w] := by unfold wordsB; rfl
theorem wordsB_cons (c : UInt8) (s w : List UInt8) : wordsB (c :: s) w = if c = 32 ∨ c = 9 then (if w = [] then wordsB s [] else w :: wordsB s []) else wordsB s (w ++ [c]) := by conv => lhs; unfold wordsB
theorem u8_eq {c : UInt8} {n : Nat} (h : c.toNat = n) (m : UInt8) (hm : n = m.toNat) : c = m := UInt8.toNat_inj.1 (h.trans hm)
theorem u8_ne {c : UInt8} {n : Nat} (h : c.toNat = n) (m : UInt8) (hm : n ≠ m.toNat) : c ≠ m := fun e => hm (by rw [← h, e])
theorem take_one {s : List UInt8} {i : Nat} (hi : i < s.length) : (s.drop i).take (i + 1 - i) = [s.getD i 0] := by
  rw [List.drop_eq_getElem_cons hi, show i + 1 - i = 1 by omega, List.getD_eq_getElem?_getD, List.getElem?_eq_getElem hi]; rfl
/-- a list of strings in an own row -/
def StrO (w : World) (base : Nat) (v : Value) (ws : List (List UInt8)) : Prop := w.ownsRow base 9 1 v ws.length (ws.map sV)
set_option maxRecDepth 100000 in
set_option maxHeartbeats 8000000 in
theorem rwords_c (s : List UInt8) (hs : s.length ≤ 100000) (w : World) :
    Calls Tryd.prog 27 #[sV s] w fun e w' => (∃ v, e = .returned v ∧ StrO w' w.heap.size v (wordsL s)) ∧ Below w.heap.size w w' := by
  obtain ⟨n, hn⟩ : ∃ n, n = s.length := ⟨_, rfl⟩
  have HN := Lib.hid hn
  have hlx : s.length = n := hn.symm
  have HNL : Hid (n ≤ 100000) := by show _ ≤ _; rw [hn]; exact hs
  clear hn hs
  go_enter Tryd.func27, Tryd.ntmps27
  go_wp2
  go_loopw [3, 4, 5] (fun vl vw vi wr => ∃ (i : Nat) (acc : List (List UInt8)) (x : List UInt8), i ≤ n ∧ vi = .int .i64 (i : Int) ∧ vw = sV x ∧ Hid (StrO wr w.heap.size vl acc) ∧ Hid (acc.length + x.length ≤ i) ∧ Hid (wordsL s = acc ++ wordsB (stripH (s.drop i)) x) ∧ Hid (Below w.heap.size w wr)) (fun _ _ vi _ => n - (intOf vi).toNat)
  case atStart => exact ⟨0, [], [], Nat.zero_le _, rfl, rfl, World.ownsRow_nil _ _ _ _, Nat.le_refl _, by rw [List.drop_zero]; rfl, Below.refl _ _⟩
  case round =>
    obtain ⟨i, acc, x, hi, rfl, rfl, hown, hal, hwo, hbel⟩ := hrel
    obtain ⟨oa, oc, ho⟩ := own_sliceR (show World.ownsRow _ _ _ _ _ _ _ from hown.out)
    subst ho
    by_cases hlt : i < n
    · have hd : decide ((i : Int) < (n : Int)) = true := by simp; omega
      have dl : (i : Int) < (n : Int) := by omega
      have hil : i < s.length := by rw [hlx]; exact hlt
      have hix := fun w : World => run_index_sV w 9 s i Tryd.underlying9 hil
      obtain ⟨c, hc⟩ : ∃ c, c = (s.getD i 0).toNat := ⟨_, rfl⟩
      rw [← hc] at hix
      have HC := Lib.hid hc.symm
      have HIL := Lib.hid hil
      have ek : IntKind.i64.wrap ((i : Int) + 1) = (i : Int) + 1 := by have := HNL.out; exact IntWalk.i64_in _ (by omega)
      have HI := Lib.hid hlt
      have HSD := strip_drop (s := s) (i := i) hil
      by_cases h35 : c = 35
      · have b35 : decide ((c : Int) = 35) = true := by simp; omega
        have bb35 : ((c : Int) == 35) = true := by simp; omega
        have n35 : ((c : Int) != 35) = false := by simp; omega
        have i35 : (c : Int) = 35 := by omega
        have HT : Hid (wordsL s = acc ++ if x = [] then [] else [x]) := by show _ = _; rw [hwo.out, HSD, if_pos (u8_eq HC.out 35 h35), wordsB_nil]
        clear hc hil hi hlt HSD hwo h35
        by_cases hx : x = []
        · have dx : decide (x = []) = true := by simpa using hx
          have HE : Hid (wordsL s = acc) := by show _ = _; rw [HT.out, if_pos hx, List.append_nil]
          clear hx
          go_wp2
          go_ret
          exact ⟨⟨_, rfl, by rw [HE.out]; exact hown.out⟩, hbel.out⟩
        · have dx : decide (x = []) = false := by simpa using hx
          have HE : Hid (wordsL s = acc ++ [x]) := by show _ = _; rw [HT.out, if_neg hx]
          have HOA : Hid ((wr.alloc (.cells #[sV x] 9)).ownsRow w.heap.size 9 1 (.slice oa acc.length oc) acc.length (acc.map sV)) := World.ownsRow.alloc hown.out _
          have HCA : Hid ((wr.alloc (.cells #[sV x] 9)).cell? ⟨wr.heap.size, 0, none⟩ = some (sV x)) := (cells_at (heap_new' _ _) 0).trans rfl
          have HBA : Hid (Below w.heap.size w (wr.alloc (.cells #[sV x] 9))) := hbel.out.alloc hbel.out.size _
          clear hx
          go_wp2_with (first
            | (refine wpList_build_str (u := x) rfl (.tmp 44) rfl rfl ?_)
            | (refine wpList_append_str (v := .slice oa acc.length oc) (base := w.heap.size) (n := acc.length) (xs := acc.map sV) (u := x) rfl (.tmp 43) (.tmp 45) rfl rfl HOA.out rfl HCA.out (by have := hal.out; have := HNL.out; have := HI.out; omega) HBA.out.size ?_; intro v6 w6 hown6 hgr6; have HO6 := Lib.hid hown6; have HB6 : Hid (Below w.heap.size w w6) := HBA.out.grown hgr6 HBA.out.size (fun k hk => (HOA.out.lt k hk).1); clear hown6 hgr6)
            | fail)
          go_ret
          refine ⟨⟨_, rfl, ?_⟩, HB6.out⟩
          rw [HE.out]
          show World.ownsRow _ _ _ _ _ _ _
          rw [List.length_append, List.map_append]
          exact HO6.out
      · have b35 : decide ((c : Int) = 35) = false := by simp; omega
        have bb35 : ((c : Int) == 35) = false := by simp; omega
        have n35 : ((c : Int) != 35) = true := by simp; omega
        have i35 : ¬ (c : Int) = 35 := by omega
        rw [if_neg (u8_ne HC.out 35 h35)] at HSD
        have HW : Hid (wordsL s = acc ++ wordsB (s.getD i 0 :: stripH (s.drop (i + 1))) x) := by show _ = _; rw [hwo.out, HSD]
        clear hwo HSD h35
        by_cases hb : c = 32 ∨ c = 9
        · have HBL : Hid (s.getD i 0 = 32 ∨ s.getD i 0 = 9) := by
            rcases hb with h | h
            · exact Or.inl (u8_eq HC.out 32 h)
            · exact Or.inr (u8_eq HC.out 9 h)
          by_cases hx : x = []
          · have dx : decide (x = []) = true := by simpa using hx
            have HW2 : Hid (wordsL s = acc ++ wordsB (stripH (s.drop (i + 1))) []) := by show _ = _; rw [HW.out, wordsB_cons, if_pos HBL.out, if_pos hx]
            clear hx hc hil hi hlt
            by_cases h32 : c = 32
            · have n32 : ((c : Int) != 32) = false := by simp; omega
              clear hb h32
              go_wp2
              go_roundw
              case rel => exact ⟨i + 1, acc, [], by have := HI.out; omega, by go_num, rfl, hown.out, by have := hal.out; show _ ≤ _; simp; omega, HW2.out, hbel.out⟩
              case measure => simp [intOf]; have := HI.out; omega
            · have n32 : ((c : Int) != 32) = true := by simp; omega
              have n9 : ((c : Int) != 9) = false := by simp; omega
              clear hb h32
              go_wp2
              go_roundw
              case rel => exact ⟨i + 1, acc, [], by have := HI.out; omega, by go_num, rfl, hown.out, by have := hal.out; show _ ≤ _; simp; omega, HW2.out, hbel.out⟩
              case measure => simp [intOf]; have := HI.out; omega
          · have dx : decide (x = []) = false := by simpa using hx
            have HW2 : Hid (wordsL s = (acc ++ [x]) ++ wordsB (stripH (s.drop (i + 1))) []) := by show _ = _; rw [HW.out, wordsB_cons, if_pos HBL.out, if_neg hx]; simp
            have HXP : Hid (0 < x.length) := by show _ < _; rcases Nat.eq_zero_or_pos x.length with h | h; exact absurd (List.length_eq_zero_iff.1 h) hx; exact h
            have HOA : Hid ((wr.alloc (.cells #[sV x] 9)).ownsRow w.heap.size 9 1 (.slice oa acc.length oc) acc.length (acc.map sV)) := World.ownsRow.alloc hown.out _
            have HCA : Hid ((wr.alloc (.cells #[sV x] 9)).cell? ⟨wr.heap.size, 0, none⟩ = some (sV x)) := (cells_at (heap_new' _ _) 0).trans rfl
            have HBA : Hid (Below w.heap.size w (wr.alloc (.cells #[sV x] 9))) := hbel.out.alloc hbel.out.size _
            clear hx hc hil hi hlt
            by_cases h32 : c = 32
            · have n32 : ((c : Int) != 32) = false := by simp; omega
              clear hb h32
              go_wp2_with (first
                | (refine wpList_build_str (u := x) rfl (.tmp 38) rfl rfl ?_)
                | (refine wpList_append_str (v := .slice oa acc.length oc) (base := w.heap.size) (n := acc.length) (xs := acc.map sV) (u := x) rfl (.tmp 37) (.tmp 39) rfl rfl HOA.out rfl HCA.out (by have := hal.out; have := HNL.out; have := HI.out; omega) HBA.out.size ?_; intro v6 w6 hown6 hgr6; have HO6 := Lib.hid hown6; have HB6 : Hid (Below w.heap.size w w6) := HBA.out.grown hgr6 HBA.out.size (fun k hk => (HOA.out.lt k hk).1); clear hown6 hgr6)
                | fail)
              go_roundw
              case rel =>
                refine ⟨i + 1, acc ++ [x], [], by have := HI.out; omega, by go_num, rfl, ?_, by have := hal.out; have := HXP.out; show _ ≤ _; simp; omega, HW2.out, HB6.out⟩
                show World.ownsRow _ _ _ _ _ _ _
                rw [List.length_append, List.map_append]
                exact HO6.out
              case measure => simp [intOf]; have := HI.out; omega
            · have n32 : ((c : Int) != 32) = true := by simp; omega
              have n9 : ((c : Int) != 9) = false := by simp; omega
              clear hb h32
              go_wp2_with (first
                | (refine wpList_build_str (u := x) rfl (.tmp 38) rfl rfl ?_)
                | (refine wpList_append_str (v := .slice oa acc.length oc) (base := w.heap.size) (n := acc.length) (xs := acc.map sV) (u := x) rfl (.tmp 37) (.tmp 39) rfl rfl HOA.out rfl HCA.out (by have := hal.out; have := HNL.out; have := HI.out; omega) HBA.out.size ?_; intro v6 w6 hown6 hgr6; have HO6 := Lib.hid hown6; have HB6 : Hid (Below w.heap.size w w6) := HBA.out.grown hgr6 HBA.out.size (fun k hk => (HOA.out.lt k hk).1); clear hown6 hgr6)
                | fail)
              go_roundw
              case rel =>
                refine ⟨i + 1, acc ++ [x], [], by have := HI.out; omega, by go_num, rfl, ?_, by have := hal.out; have := HXP.out; show _ ≤ _; simp; omega, HW2.out, HB6.out⟩
                show World.ownsRow _ _ _ _ _ _ _
                rw [List.length_append, List.map_append]
                exact HO6.out
              case measure => simp [intOf]; have := HI.out; omega
        · have b32 : decide ((c : Int) = 32) = false := by simp; omega
          have bb32 : ((c : Int) == 32) = false := by simp; omega
          have n32 : ((c : Int) != 32) = true := by simp; omega
          have n9 : ((c : Int) != 9) = true := by simp; omega
          have i32 : ¬ (c : Int) = 32 := by omega
          have b9 : decide ((c : Int) = 9) = false := by simp; omega
          have bb9 : ((c : Int) == 9) = false := by simp; omega
          have i9 : ¬ (c : Int) = 9 := by omega
          have HW2 : Hid (wordsL s = acc ++ wordsB (stripH (s.drop (i + 1))) (x ++ [s.getD i 0])) := by
            show _ = _
            rw [HW.out, wordsB_cons, if_neg (fun h => hb (by
              rcases h with h | h
              · exact Or.inl (by rw [← HC.out, h]; rfl)
              · exact Or.inr (by rw [← HC.out, h]; rfl)))]
          have HT1 := Lib.hid (take_one hil)
          obtain ⟨y, hy⟩ : ∃ y, y = s.getD i 0 := ⟨_, rfl⟩
          rw [← hy] at HW2 HT1
          have hxl : x.length + 1 ≤ 9223372036854775807 := by have := hal.out; have := HNL.out; omega
          have hxl2 : x.length ≤ 9223372036854775806 := by omega
          obtain ⟨i1, hi1⟩ : ∃ j, j = i + 1 := ⟨_, rfl⟩
          have ek1 : IntKind.i64.wrap ((i : Int) + 1) = (i1 : Int) := by rw [ek]; omega
          have HI1 : Hid (i1 = i + 1) := hi1
          have HIN : Hid (i ≤ i1 ∧ i1 ≤ s.length) := ⟨by omega, by omega⟩
          clear hb hc hil hi hlt hy ek hi1
          go_wp2_with (first
            | (refine wpList_slice_s rfl (l := s) (i := i) (j := i1) (.tmp 29) (.tmp 30) (.tmp 32) rfl rfl rfl (by first | rfl | (simp only [Act.eval]; rfl)) HIN.out.1 HIN.out.2 ?_; rw [show (s.drop i).take (i1 - i) = [y] from by rw [HI1.out]; exact HT1.out])
            | fail)
          go_roundw
          case rel => exact ⟨i1, acc, x ++ [y], by have := HI.out; have := HI1.out; omega, by first | rfl | go_num, rfl, hown.out, by have := hal.out; have := HI1.out; show _ ≤ _; simp; omega, by show _ = _; rw [HI1.out]; exact HW2.out, hbel.out⟩
          case measure => simp [intOf]; have := HI.out; have := HI1.out; omega
    · have hd : decide ((i : Int) < (n : Int)) = false := by simp; omega
      have dl : ¬ (i : Int) < (n : Int) := by omega
      have HT : Hid (wordsL s = acc ++ if x = [] then [] else [x]) := by show _ = _; rw [hwo.out, List.drop_of_length_le (by omega)]; rw [show stripH [] = [] from rfl, wordsB_nil]
      have HI2 : Hid (i ≤ n) := hi
      clear hwo hi hlt
      by_cases hx : x = []
      · have dx : decide (x = []) = true := by simpa using hx
        have HE : Hid (wordsL s = acc) := by show _ = _; rw [HT.out, if_pos hx, List.append_nil]
        clear hx
        go_wp2
        go_ret
        exact ⟨⟨_, rfl, by rw [HE.out]; exact hown.out⟩, hbel.out⟩
      · have dx : decide (x = []) = false := by simpa using hx
        have HE : Hid (wordsL s = acc ++ [x]) := by show _ = _; rw [HT.out, if_neg hx]
        have HOA : Hid ((wr.alloc (.cells #[sV x] 9)).ownsRow w.heap.size 9 1 (.slice oa acc.length oc) acc.length (acc.map sV)) := World.ownsRow.alloc hown.out _
        have HCA : Hid ((wr.alloc (.cells #[sV x] 9)).cell? ⟨wr.heap.size, 0, none⟩ = some (sV x)) := (cells_at (heap_new' _ _) 0).trans rfl
        have HBA : Hid (Below w.heap.size w (wr.alloc (.cells #[sV x] 9))) := hbel.out.alloc hbel.out.size _
        clear hx
        go_wp2_with (first
          | (refine wpList_build_str (u := x) rfl (.tmp 44) rfl rfl ?_)
          | (refine wpList_append_str (v := .slice oa acc.length oc) (base := w.heap.size) (n := acc.length) (xs := acc.map sV) (u := x) rfl (.tmp 43) (.tmp 45) rfl rfl HOA.out rfl HCA.out (by have := hal.out; have := HNL.out; have := HI2.out; omega) HBA.out.size ?_; intro v6 w6 hown6 hgr6; have HO6 := Lib.hid hown6; have HB6 : Hid (Below w.heap.size w w6) := HBA.out.grown hgr6 HBA.out.size (fun k hk => (HOA.out.lt k hk).1); clear hown6 hgr6)
          | fail)
        go_ret
        refine ⟨⟨_, rfl, ?_⟩, HB6.out⟩
        rw [HE.out]
        show World.ownsRow _ _ _ _ _ _ _
        rw [List.length_append, List.map_append]
        exact HO6.out
set_option maxRecDepth 100000 in
set_option maxHeartbeats 4000000 in
theorem rvalue_c (x : List UInt8) (w : World) :
    Calls Tryd.prog 42 #[sV x] w fun e w' => (∃ q : Nat, e = .returned (.tuple #[.int .i64 (q : Int), .bool (numW x).isSome]) ∧ ∀ m, numW x = some m → m = q) ∧ w = w' := by
  obtain ⟨n, hn⟩ : ∃ n, n = x.length := ⟨_, rfl⟩
  have HN := Lib.hid hn
  have hlx : x.length = n := hn.symm
  clear hn
  go_enter Tryd.func42, Tryd.ntmps42
  go_wp2
  go_loop [4, 5] (fun vn vi => ∃ k : Nat, k ≤ n ∧ vi = .int .i64 (k : Int) ∧ ∃ q : Nat, vn = .int .i64 (q : Int) ∧ Hid (k ≤ 5) ∧ Hid (q = decN (x.take k) 0) ∧ Hid (∀ j, j < k → isDig (x.getD j 0) = true)) (fun _ vi => n - (intOf vi).toNat)
  case atStart => exact ⟨0, by omega, rfl, 0, rfl, (show (0 : Nat) ≤ 5 by omega), rfl, fun j h => by omega⟩
  case round =>
    obtain ⟨k, hk, rfl, q, rfl, hk5, hq, hdig⟩ := hrel
    have HQ : Hid (q < 10 ^ k ∧ q < 100000) := by
      have h1 := dec_le x k hdig.out (by rw [← HN.out]; exact hk)
      rw [← hq.out] at h1
      exact ⟨h1, Nat.lt_of_lt_of_le h1 (Nat.le_trans (Nat.pow_le_pow_right (by decide) hk5.out) (by decide))⟩
    by_cases hlt : k < n
    · have hd : decide ((k : Int) < (n : Int)) = true := by simp; omega
      have dl : (k : Int) < (n : Int) := by omega
      have hix := fun w : World => run_index_sV w 9 x k Tryd.underlying9 (by rw [← HN.out]; exact hlt)
      obtain ⟨c, hc⟩ : ∃ c, c = (x.getD k 0).toNat := ⟨_, rfl⟩
      rw [← hc] at hix
      have HK := Lib.hid hlt
      have ek : IntKind.i64.wrap ((k : Int) + 1) = (k : Int) + 1 := by have := hk5.out; exact IntWalk.i64_in _ (by omega)
      have HC256 : Hid (c < 256) := by show _ < _; rw [hc]; exact UInt8.toNat_lt _
      by_cases hlo : c < 48
      · have b48 : decide ((c : Int) < 48) = true := by simp; omega
        have i48 : (c : Int) < 48 := by omega
        have HW : Hid (numW x = none) := numW_bad (k := k) (by rw [← HN.out]; exact hlt) (by unfold isDig; rw [← hc]; simp; omega)
        clear hc hlo
        go_wp2
        go_ret2
        exact ⟨⟨0, by rw [HW.out]; rfl, fun m h => by rw [HW.out] at h; cases h⟩, rfl⟩
      · have b48 : decide ((c : Int) < 48) = false := by simp; omega
        have i48 : ¬ (c : Int) < 48 := by omega
        by_cases hhi : c > 57
        · have b57 : decide ((c : Int) > 57) = true := by simp; omega
          have i57 : (57 : Int) < (c : Int) := by omega
          have HW : Hid (numW x = none) := numW_bad (k := k) (by rw [← HN.out]; exact hlt) (by unfold isDig; rw [← hc]; simp; omega)
          clear hc hlo hhi
          go_wp2
          go_ret2
          exact ⟨⟨0, by rw [HW.out]; rfl, fun m h => by rw [HW.out] at h; cases h⟩, rfl⟩
        · have b57 : decide ((c : Int) > 57) = false := by simp; omega
          have i57 : ¬ (57 : Int) < (c : Int) := by omega
          by_cases h4 : k > 4
          · have b4 : decide ((k : Int) > 4) = true := by simp; omega
            have i4 : (4 : Int) < (k : Int) := by omega
            have HW : Hid (numW x = none) := by show _ = _; unfold numW; rw [if_neg (by rw [hlx]; omega)]
            clear hc hlo hhi h4
            go_wp2
            go_ret2
            exact ⟨⟨0, by rw [HW.out]; rfl, fun m h => by rw [HW.out] at h; cases h⟩, rfl⟩
          · have b4 : decide ((k : Int) > 4) = false := by simp; omega
            have i4 : ¬ (4 : Int) < (k : Int) := by omega
            have HK4 : Hid (k ≤ 4) := by show _ ≤ _; omega
            obtain ⟨d, hd2⟩ : ∃ d, d = c - 48 := ⟨_, rfl⟩
            have e1 : IntKind.u8.wrap ((c : Int) - 48) = (d : Int) := by have := HC256.out; rw [IntKind.wrap_u8]; omega
            have e2 : IntKind.i64.wrap (d : Int) = (d : Int) := by have := HC256.out; exact IntWalk.i64_in _ (by omega)
            obtain ⟨q10, hq10⟩ : ∃ y, y = 10 * q := ⟨_, rfl⟩
            have e3 : IntKind.i64.wrap (10 * (q : Int)) = (q10 : Int) := by have := HQ.out; rw [IntWalk.i64_in _ (by omega)]; omega
            obtain ⟨q2, hq2⟩ : ∃ y, y = q10 + d := ⟨_, rfl⟩
            have e4 : IntKind.i64.wrap ((q10 : Int) + (d : Int)) = (q2 : Int) := by have := HQ.out; have := HC256.out; rw [IntWalk.i64_in _ (by omega)]; omega
            have HQ2 : Hid (q2 = decN (x.take (k + 1)) 0) := by show _ = _; rw [dec_take x k (by rw [← HN.out]; exact hlt), ← hc, ← hq.out, hq2, hq10, hd2]
            have HD2 : Hid (∀ j, j < k + 1 → isDig (x.getD j 0) = true) := fun j hj => by
              rcases Nat.lt_or_eq_of_le (Nat.le_of_lt_succ hj) with h | h
              · exact hdig.out j h
              · subst h; unfold isDig; rw [← hc]; simp; omega
            clear hc hd2 hq10 hq2 hq hdig hk hk5 hlo hhi h4
            go_wp2
            go_round
            case rel => exact ⟨k + 1, by have := HK.out; omega, by go_num, q2, rfl, by have := HK4.out; show _ ≤ _; omega, HQ2.out, HD2.out⟩
            case measure => simp [intOf]; have := HK.out; omega
    · have hd : decide ((k : Int) < (n : Int)) = false := by simp; omega
      have dl : ¬ (k : Int) < (n : Int) := by omega
      have HKE : Hid (k = x.length) := by show _ = _; rw [← HN.out]; omega
      have HA : Hid (x.all isDig = true) := dig_all (fun j hj => hdig.out j (by rw [HKE.out]; exact hj))
      have HQE : Hid (q = decN x 0) := by have := hq.out; rw [HKE.out, List.take_length] at this; exact this
      have HX5 : Hid (x.length ≤ 5) := by rw [← HKE.out]; exact hk5.out
      by_cases hx : x = []
      · have dx : decide (x = []) = true := by simpa using hx
        have HW : Hid (numW x = none) := by show _ = _; rw [hx]; rfl
        clear hx hq hdig hk hk5
        go_wp2
        go_ret2
        exact ⟨⟨q, by rw [HW.out]; rfl, fun m h => by rw [HW.out] at h; cases h⟩, rfl⟩
      · have dx : decide (x = []) = false := by simpa using hx
        have HX1 : Hid (1 ≤ x.length) := by show _ ≤ _; rcases Nat.eq_zero_or_pos x.length with h | h; exact absurd (List.length_eq_zero_iff.1 h) hx; exact h
        by_cases hbig : q > 65535
        · have bq : decide ((q : Int) ≤ 65535) = false := by simp; omega
          have iq : ¬ (q : Int) ≤ 65535 := by omega
          have HW : Hid (numW x = none) := by show _ = _; unfold numW; rw [if_neg (by rw [← HQE.out]; omega)]
          clear hq hdig hk hk5 hx hbig
          go_wp2
          go_ret2
          exact ⟨⟨q, by rw [HW.out]; rfl, fun m h => by rw [HW.out] at h; cases h⟩, rfl⟩
        · have bq : decide ((q : Int) ≤ 65535) = true := by simp; omega
          have iq : (q : Int) ≤ 65535 := by omega
          have HW : Hid (numW x = some q) := by show _ = _; unfold numW; rw [if_pos ⟨HX1.out, HX5.out, HA.out, by rw [← HQE.out]; omega⟩, ← HQE.out]
          clear hq hdig hk hk5 hx hbig
          go_wp2
          go_ret2
          exact ⟨⟨q, by rw [HW.out]; rfl, fun m h => by rw [HW.out] at h; cases h; rfl⟩, rfl⟩
end Go.Proofs.YteennbdakjjcfaaDoor
