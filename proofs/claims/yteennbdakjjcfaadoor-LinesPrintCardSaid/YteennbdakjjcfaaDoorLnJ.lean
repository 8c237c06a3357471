/- May: the program's of an act; the reference's of an act that has a line. Printed by gen_lnj.py. -/
import Derived.Test.YteennbdakjjcfaaDoorLnI
import Derived.Test.YteennbdakjjcfaaDoorLnG
set_option linter.unusedVariables false
set_option linter.unusedSimpArgs false
namespace Go.Proofs.YteennbdakjjcfaaDoor
open Go Go.RowKit Go.Lib
theorem numOk_in (x : Int) (h : Bool) : numOk x h = (numIn x && (h || x == 0)) := by
  unfold numOk numIn
  congr 2
theorem may_lack (k : Nat) (a : AN) (bl : Nat) (hbl : a.b.length = bl) : mayF k a = (numIn a.which && (numIn a.k && (numIn a.n && (numIn a.at_ && lackF k a bl)))) := by
  have e1 : decide (a.b.length = 0) = ((bl : Int) == 0) := by
    rw [hbl]
    by_cases h : bl = 0
    · subst h; rfl
    · rw [decide_eq_false h, beq_eq_false_iff_ne.2 (by omega)]
  have e2 : (!a.yes) = (a.yes == false) := by cases a.yes <;> rfl
  unfold mayF lackF
  rw [numOk_in, numOk_in, numOk_in, numOk_in, e1, e2]
  generalize numIn a.which = p1
  generalize numIn a.k = p2
  generalize numIn a.n = p3
  generalize numIn a.at_ = p4
  generalize (hasK k 119 || a.which == 0) = q1
  generalize (hasK k 107 || a.k == 0) = q2
  generalize (hasK k 110 || a.n == 0) = q3
  generalize (hasK k 97 || a.at_ == 0) = q4
  generalize hasK k 121 = y
  generalize hasK k 98 = b
  generalize ((bl : Int) == 0) = z
  generalize (a.yes == false) = u
  cases p1 <;> cases p2 <;> cases p3 <;> cases p4 <;> cases q1 <;> cases q2 <;> cases q3 <;> cases q4 <;> cases y <;> cases b <;> cases z <;> cases u <;> rfl
theorem wpList_load_row_g {P : Program} {ops : Array Oper} {rest : List Oper} {o : Oper} {a : Act} {w : World} {Q : Exit → Act → World → Prop} (hw : Region.wanted o (yielded ops a.tmps) = true) (ty : TypeId) (x : Operand) (ho : o.op = .load ty x)
    (g : Nat) (hx : a.eval x = .pointer (some ⟨g, 0, none⟩)) {t : TypeId} {cs : Array Value} {fr : Nat × Nat} (d : TypeDesc) (hg : w.heap[g]? = some (.cells cs t fr))
    (hu : P.underlying ty = some d) (hd : (match d with | .struct _ | .array _ _ => true | _ => false) = true) (hi : (P.info? ty).map (·.size) = some cs.size)
    (h : wpList P ops Q rest (a.put o.dst (.agg cs)) w) : wpList P ops Q (o :: rest) a w :=
  wpList_met hw fun _ hK => wp_load_row ty x ho g hx t cs fr d hg hu hd hi (hK _ _ h)
set_option maxRecDepth 100000 in
set_option maxHeartbeats 4000000 in
theorem smay_c (a : AN) (va : Option Addr) (bl vc : Nat) (hbl : a.b.length = bl) (hva : va = none → vc = 0) (w : World) :
    Calls Tryd.prog 30 #[.agg (actA a (.slice va bl vc))] w fun e w' => e = .returned (.bool (mayA a)) ∧ Below w.heap.size w w' := by
  have HBK : Hid ((w.alloc (.cells (actA a (.slice va bl vc)) 44)).heap[w.heap.size]? = some (.cells (actA a (.slice va bl vc)) 44 (0, 0))) := heap_new' _ _
  have HBE : Hid (Below w.heap.size w (w.alloc (.cells (actA a (.slice va bl vc)) 44))) := (Below.refl _ _).alloc (Nat.le_refl _) _
  have c0 := (cells_at HBK.out 0).trans (show _ = some (Value.int .i64 a.kind) from rfl)
  have c2 := (cells_at HBK.out 2).trans (show _ = some (Value.int .i64 a.which) from rfl)
  have c3 := (cells_at HBK.out 3).trans (show _ = some (Value.int .i64 a.k) from rfl)
  have c4 := (cells_at HBK.out 4).trans (show _ = some (Value.int .i64 a.n) from rfl)
  have c5 := (cells_at HBK.out 5).trans (show _ = some (Value.int .i64 a.at_) from rfl)
  have c6 := (cells_at HBK.out 6).trans (show _ = some (Value.slice va bl vc) from rfl)
  have HBL := Lib.hid hbl
  have HVA := Lib.hid hva
  clear hbl hva
  go_enter Tryd.func30, Tryd.ntmps30
  by_cases hk0 : a.kind < 0
  · have d1 : decide (a.kind < 0) = true := by simpa using hk0
    have HM : Hid (mayA a = false) := by show _ = _; unfold mayA; rw [show decide (0 ≤ a.kind ∧ a.kind ≤ 19) = false by simp; omega]; rfl
    go_wp2
    go_ret
    exact ⟨by rw [HM.out]; rfl, HBE.out⟩
  · have d1 : decide (a.kind < 0) = false := by simpa using hk0
    by_cases hk19 : a.kind > 19
    · have d2 : decide (a.kind > 19) = true := by simpa using hk19
      have HM : Hid (mayA a = false) := by show _ = _; unfold mayA; rw [show decide (0 ≤ a.kind ∧ a.kind ≤ 19) = false by simp; omega]; rfl
      go_wp2
      go_ret
      exact ⟨by rw [HM.out]; rfl, HBE.out⟩
    · have d2 : decide (a.kind > 19) = false := by simpa using hk19
      by_cases hb : bl > 1024
      · have d3 : decide ((bl : Int) > 1024) = true := by simp; omega
        have i3 : (1024 : Int) < (bl : Int) := by omega
        have HM : Hid (mayA a = false) := by show _ = _; unfold mayA; rw [HBL.out, show decide (bl ≤ 1024) = false by simp; omega]; simp
        go_wp2
        go_ret
        exact ⟨by rw [HM.out]; rfl, HBE.out⟩
      · have d3 : decide ((bl : Int) > 1024) = false := by simp; omega
        have i3 : ¬ (1024 : Int) < (bl : Int) := by omega
        obtain ⟨k, hk⟩ : ∃ k : Nat, a.kind = (k : Int) := ⟨a.kind.toNat, by omega⟩
        have HBR : Hid (∀ w', Calls Tryd.prog 45 #[.agg (actA a (.slice va bl vc))] w' _) := fun w' => bare_c k (by omega) a hk va bl vc HVA.out w'
        have HN1 := Lib.hid (fun w => num44_c a.which w)
        have HN2 := Lib.hid (fun w => num44_c a.k w)
        have HN3 := Lib.hid (fun w => num44_c a.n w)
        have HN4 := Lib.hid (fun w => num44_c a.at_ w)
        obtain ⟨r1, hr1⟩ : ∃ x, x = numIn a.which := ⟨_, rfl⟩
        obtain ⟨r2, hr2⟩ : ∃ x, x = numIn a.k := ⟨_, rfl⟩
        obtain ⟨r3, hr3⟩ : ∃ x, x = numIn a.n := ⟨_, rfl⟩
        obtain ⟨r4, hr4⟩ : ∃ x, x = numIn a.at_ := ⟨_, rfl⟩
        obtain ⟨lk, hlk⟩ : ∃ x, x = lackF k a bl := ⟨_, rfl⟩
        have HM : Hid (mayA a = (r1 && (r2 && (r3 && (r4 && lk))))) := by
          show _ = _
          unfold mayA
          rw [show a.kind.toNat = k by omega, may_lack k a bl HBL.out, ← hr1, ← hr2, ← hr3, ← hr4, ← hlk, HBL.out, show decide (0 ≤ a.kind ∧ a.kind ≤ 19) = true by simp; omega, show decide (bl ≤ 1024) = true by simp; omega]
          rfl
        rw [← hr1] at HN1
        rw [← hr2] at HN2
        rw [← hr3] at HN3
        rw [← hr4] at HN4
        rw [← hlk] at HBR
        clear hr1 hr2 hr3 hr4 hlk hk hb
        go_wp2_with fail
        generalize w.alloc (.cells (actA a (.slice va bl vc)) 44) = w0 at *
        refine (HN1.out w0).mono ?_
        rintro e w' ⟨rfl, rfl⟩
        cases r1 with
        | false =>
          go_wp2
          go_ret
          exact ⟨by rw [HM.out]; rfl, HBE.out⟩
        | true =>
          go_wp2_with fail
          refine (HN2.out w0).mono ?_
          rintro e w' ⟨rfl, rfl⟩
          cases r2 with
          | false =>
            go_wp2
            go_ret
            exact ⟨by rw [HM.out]; rfl, HBE.out⟩
          | true =>
            go_wp2_with fail
            refine (HN3.out w0).mono ?_
            rintro e w' ⟨rfl, rfl⟩
            cases r3 with
            | false =>
              go_wp2
              go_ret
              exact ⟨by rw [HM.out]; rfl, HBE.out⟩
            | true =>
              go_wp2_with fail
              refine (HN4.out w0).mono ?_
              rintro e w' ⟨rfl, rfl⟩
              cases r4 with
              | false =>
                go_wp2
                go_ret
                exact ⟨by rw [HM.out]; rfl, HBE.out⟩
              | true =>
                go_wp2_with (first
                  | (refine wpList_load_row_g (by rfl) 44 (.tmp 1) rfl w.heap.size rfl _ HBK.out Tryd.underlying44 rfl (by rw [act44]; rfl) ?_)
                  | fail)
                refine (HBR.out w0).mono ?_
                rintro e w1 ⟨⟨a', va', bl', vc', rfl, hva', hz'⟩, hb1⟩
                have HVA' := Lib.hid hva'
                have HZ' := Lib.hid hz'
                have HE1 : Hid (Below w.heap.size w w1) := HBE.out.trans (hb1.mono HBE.out.size)
                clear hva' hz' hb1
                go_wp2_with fail
                refine (zero_c a' va' bl' vc' HVA'.out w1).mono ?_
                rintro e w2 ⟨rfl, hb2⟩
                rw [HZ'.out]
                have HE2 : Hid (Below w.heap.size w w2) := HE1.out.trans (hb2.mono HE1.out.size)
                clear hb2
                go_wp2
                go_ret
                exact ⟨by rw [HM.out]; cases lk <;> rfl, HE2.out⟩
def mayL (a : AN) : Bool := mayA a && (!(a.kind == 11) || (!a.yes || a.which == 0))
end Go.Proofs.YteennbdakjjcfaaDoor
