/- The reference's May of an act. Printed by gen_lng.py. -/
import Derived.Test.YteennbdakjjcfaaDoorLnF
set_option linter.unusedVariables false
set_option linter.unusedSimpArgs false
namespace Go.Proofs.YteennbdakjjcfaaDoor
open Go Go.RowKit Go.Lib
def mayF (k : Nat) (a : AN) : Bool := numOk a.which (hasK k 119) && (numOk a.k (hasK k 107) && (numOk a.n (hasK k 110) && (numOk a.at_ (hasK k 97) && ((!a.yes || hasK k 121) && (decide (a.b.length = 0) || hasK k 98)))))
def mayA (a : AN) : Bool := decide (0 ≤ a.kind ∧ a.kind ≤ 19) && (decide (a.b.length ≤ 1024) && mayF a.kind.toNat a)
theorem quiet_eq {P : Program} {f : FuncId} {args : Array Value} {w : World} {n : Nat} {v : Value}
    (h : Calls P f args (w.drewN n) fun e w' => e = .returned v ∧ w.drewN n = w') : Calls P f args (w.drewN n) fun e w'' => e = .returned v ∧ ∃ m, w'' = w.drewN m :=
  h.mono fun _ _ ⟨he, hm⟩ => ⟨he, n, hm.symm⟩
set_option maxRecDepth 100000 in
set_option maxHeartbeats 8000000 in
theorem amay_c (a : AN) (va : Option Addr) (bl vc : Nat) (hbl : a.b.length = bl) (w : World) :
    Calls Tryd.prog 17 #[.agg (actA a (.slice va bl vc))] w fun e w' => e = .returned (.bool (mayA a)) ∧ Below w.heap.size w w' := by
  have hblk := heap_new' w (.cells (actA a (.slice va bl vc)) 27)
  have HBE : Hid (Below w.heap.size w (w.alloc (.cells (actA a (.slice va bl vc)) 27))) := (Below.refl _ _).alloc (Nat.le_refl _) _
  have c0 := (cells_at hblk 0).trans (show _ = some (Value.int .i64 a.kind) from rfl)
  have c1 := (cells_at hblk 1).trans (show _ = some (Value.bool a.yes) from rfl)
  have c2 := (cells_at hblk 2).trans (show _ = some (Value.int .i64 a.which) from rfl)
  have c3 := (cells_at hblk 3).trans (show _ = some (Value.int .i64 a.k) from rfl)
  have c4 := (cells_at hblk 4).trans (show _ = some (Value.int .i64 a.n) from rfl)
  have c5 := (cells_at hblk 5).trans (show _ = some (Value.int .i64 a.at_) from rfl)
  have c6 := (cells_at hblk 6).trans (show _ = some (Value.slice va bl vc) from rfl)
  have HBL := Lib.hid hbl
  clear hblk hbl
  go_enter Tryd.func17, Tryd.ntmps17
  generalize hV : (.slice va bl vc : Value) = V at *
  generalize hW0 : w.alloc (.cells (actA a V) 27) = w0 at *
  subst hV
  by_cases hk0 : a.kind < 0
  · have d1 : decide (a.kind < 0) = true := by simpa using hk0
    have HM : Hid (mayA a = false) := by show _ = _; unfold mayA; rw [show decide (0 ≤ a.kind ∧ a.kind ≤ 19) = false by simp; omega]; rfl
    go_wp2
    go_ret
    exact ⟨by rw [HM.out]; rfl, HBE.out⟩
  · have d1 : decide (a.kind < 0) = false := by simpa using hk0
    by_cases hk19 : a.kind > 19
    · have d2 : decide (a.kind > 19) = true := by simpa using hk19
      have HM : Hid (mayA a = false) := by show _ = _; unfold mayA; rw [show decide (0 ≤ a.kind ∧ a.kind ≤ 19) = false by simp; omega]; rfl
      go_wp2
      go_ret
      exact ⟨by rw [HM.out]; rfl, HBE.out⟩
    · have d2 : decide (a.kind > 19) = false := by simpa using hk19
      by_cases hb : bl > 1024
      · have d3 : decide ((bl : Int) > 1024) = true := by simp; omega
        have i3 : (1024 : Int) < (bl : Int) := by omega
        have HM : Hid (mayA a = false) := by show _ = _; unfold mayA; rw [HBL.out, show decide (bl ≤ 1024) = false by simp; omega]; simp
        go_wp2
        go_ret
        exact ⟨by rw [HM.out]; rfl, HBE.out⟩
      · have d3 : decide ((bl : Int) > 1024) = false := by simp; omega
        have i3 : ¬ (1024 : Int) < (bl : Int) := by omega
        obtain ⟨k, hk⟩ : ∃ k : Nat, a.kind = (k : Int) := ⟨a.kind.toNat, by omega⟩
        have hk20 : k < 20 := by omega
        obtain ⟨bw, hbw⟩ : ∃ x, x = hasK k 119 := ⟨_, rfl⟩
        obtain ⟨bk, hbk⟩ : ∃ x, x = hasK k 107 := ⟨_, rfl⟩
        obtain ⟨bn, hbn⟩ : ∃ x, x = hasK k 110 := ⟨_, rfl⟩
        obtain ⟨ba, hba⟩ : ∃ x, x = hasK k 97 := ⟨_, rfl⟩
        obtain ⟨by_, hby⟩ : ∃ x, x = hasK k 121 := ⟨_, rfl⟩
        obtain ⟨bb, hbb⟩ : ∃ x, x = hasK k 98 := ⟨_, rfl⟩
        have Hbw : Hid (∀ (w' : World) (m : Nat), Calls Tryd.prog 36 #[.int .i64 (k : Int), .int .u8 119] (w'.drewN m) fun e w'' => e = .returned (.bool bw) ∧ ∃ m', w'' = w'.drewN m') := fun w' m => by rw [hbw]; exact quiet_eq (has_c k hk20 119 119 rfl _)
        have Hbk : Hid (∀ (w' : World) (m : Nat), Calls Tryd.prog 36 #[.int .i64 (k : Int), .int .u8 107] (w'.drewN m) fun e w'' => e = .returned (.bool bk) ∧ ∃ m', w'' = w'.drewN m') := fun w' m => by rw [hbk]; exact quiet_eq (has_c k hk20 107 107 rfl _)
        have Hbn : Hid (∀ (w' : World) (m : Nat), Calls Tryd.prog 36 #[.int .i64 (k : Int), .int .u8 110] (w'.drewN m) fun e w'' => e = .returned (.bool bn) ∧ ∃ m', w'' = w'.drewN m') := fun w' m => by rw [hbn]; exact quiet_eq (has_c k hk20 110 110 rfl _)
        have Hba : Hid (∀ (w' : World) (m : Nat), Calls Tryd.prog 36 #[.int .i64 (k : Int), .int .u8 97] (w'.drewN m) fun e w'' => e = .returned (.bool ba) ∧ ∃ m', w'' = w'.drewN m') := fun w' m => by rw [hba]; exact quiet_eq (has_c k hk20 97 97 rfl _)
        have Hby_ : Hid (∀ (w' : World) (m : Nat), Calls Tryd.prog 36 #[.int .i64 (k : Int), .int .u8 121] (w'.drewN m) fun e w'' => e = .returned (.bool by_) ∧ ∃ m', w'' = w'.drewN m') := fun w' m => by rw [hby]; exact quiet_eq (has_c k hk20 121 121 rfl _)
        have Hbb : Hid (∀ (w' : World) (m : Nat), Calls Tryd.prog 36 #[.int .i64 (k : Int), .int .u8 98] (w'.drewN m) fun e w'' => e = .returned (.bool bb) ∧ ∃ m', w'' = w'.drewN m') := fun w' m => by rw [hbb]; exact quiet_eq (has_c k hk20 98 98 rfl _)
        obtain ⟨r1, hr1⟩ : ∃ x, x = numOk a.which bw := ⟨_, rfl⟩
        have Hr1 : Hid (∀ (w' : World) (m : Nat), Calls Tryd.prog 35 #[.int .i64 a.which, .bool bw] (w'.drewN m) fun e w'' => e = .returned (.bool r1) ∧ ∃ m', w'' = w'.drewN m') := fun w' m => by rw [hr1]; exact quiet_eq (num35_c _ _ _)
        obtain ⟨r2, hr2⟩ : ∃ x, x = numOk a.k bk := ⟨_, rfl⟩
        have Hr2 : Hid (∀ (w' : World) (m : Nat), Calls Tryd.prog 35 #[.int .i64 a.k, .bool bk] (w'.drewN m) fun e w'' => e = .returned (.bool r2) ∧ ∃ m', w'' = w'.drewN m') := fun w' m => by rw [hr2]; exact quiet_eq (num35_c _ _ _)
        obtain ⟨r3, hr3⟩ : ∃ x, x = numOk a.n bn := ⟨_, rfl⟩
        have Hr3 : Hid (∀ (w' : World) (m : Nat), Calls Tryd.prog 35 #[.int .i64 a.n, .bool bn] (w'.drewN m) fun e w'' => e = .returned (.bool r3) ∧ ∃ m', w'' = w'.drewN m') := fun w' m => by rw [hr3]; exact quiet_eq (num35_c _ _ _)
        obtain ⟨r4, hr4⟩ : ∃ x, x = numOk a.at_ ba := ⟨_, rfl⟩
        have Hr4 : Hid (∀ (w' : World) (m : Nat), Calls Tryd.prog 35 #[.int .i64 a.at_, .bool ba] (w'.drewN m) fun e w'' => e = .returned (.bool r4) ∧ ∃ m', w'' = w'.drewN m') := fun w' m => by rw [hr4]; exact quiet_eq (num35_c _ _ _)
        have HM : Hid (mayA a = (r1 && (r2 && (r3 && (r4 && ((!a.yes || by_) && (decide (bl = 0) || bb))))))) := by
          show _ = _
          unfold mayA mayF
          rw [show a.kind.toNat = k by omega, ← hbw, ← hbk, ← hbn, ← hba, ← hby, ← hbb, ← hr1, ← hr2, ← hr3, ← hr4, HBL.out, show decide (0 ≤ a.kind ∧ a.kind ≤ 19) = true by simp; omega, show decide (bl ≤ 1024) = true by simp; omega]
          rfl
        rw [hk] at c0
        have d1k : decide ((k : Int) < 0) = false := by simp
        have d2k : decide ((k : Int) > 19) = false := by simp; omega
        have i2k : ¬ (19 : Int) < (k : Int) := by omega
        clear hbw hbk hbn hba hby hbb hr1 hr2 hr3 hr4 hk hk20 d1 d2 hk0 hk19 hb
        obtain ⟨ye, hye⟩ : ∃ y, a.yes = y := ⟨_, rfl⟩
        rw [hye] at c1 HM
        obtain ⟨aw, haw⟩ : ∃ y, a.which = y := ⟨_, rfl⟩
        rw [haw] at c2 Hr1
        obtain ⟨ak, hak⟩ : ∃ y, a.k = y := ⟨_, rfl⟩
        rw [hak] at c3 Hr2
        obtain ⟨an, han⟩ : ∃ y, a.n = y := ⟨_, rfl⟩
        rw [han] at c4 Hr3
        obtain ⟨aa, haa⟩ : ∃ y, a.at_ = y := ⟨_, rfl⟩
        rw [haa] at c5 Hr4
        clear hye haw hak han haa
        go_wp2_with fail
        cases r1 with
        | false =>
          go_quiet (with_reducible first | exact Hbw.out _ _ | exact Hbk.out _ _ | exact Hbn.out _ _ | exact Hba.out _ _ | exact Hby_.out _ _ | exact Hbb.out _ _ | exact Hr1.out _ _ | exact Hr2.out _ _ | exact Hr3.out _ _ | exact Hr4.out _ _)
          go_wp2
          go_ret
          exact ⟨by rw [HM.out]; rfl, below_drewN HBE.out _⟩
        | true =>
          cases r2 with
          | false =>
            go_quiet (with_reducible first | exact Hbw.out _ _ | exact Hbk.out _ _ | exact Hbn.out _ _ | exact Hba.out _ _ | exact Hby_.out _ _ | exact Hbb.out _ _ | exact Hr1.out _ _ | exact Hr2.out _ _ | exact Hr3.out _ _ | exact Hr4.out _ _)
            go_wp2
            go_ret
            exact ⟨by rw [HM.out]; rfl, below_drewN HBE.out _⟩
          | true =>
            cases r3 with
            | false =>
              go_quiet (with_reducible first | exact Hbw.out _ _ | exact Hbk.out _ _ | exact Hbn.out _ _ | exact Hba.out _ _ | exact Hby_.out _ _ | exact Hbb.out _ _ | exact Hr1.out _ _ | exact Hr2.out _ _ | exact Hr3.out _ _ | exact Hr4.out _ _)
              go_wp2
              go_ret
              exact ⟨by rw [HM.out]; rfl, below_drewN HBE.out _⟩
            | true =>
              cases r4 with
              | false =>
                go_quiet (with_reducible first | exact Hbw.out _ _ | exact Hbk.out _ _ | exact Hbn.out _ _ | exact Hba.out _ _ | exact Hby_.out _ _ | exact Hbb.out _ _ | exact Hr1.out _ _ | exact Hr2.out _ _ | exact Hr3.out _ _ | exact Hr4.out _ _)
                go_wp2
                go_ret
                exact ⟨by rw [HM.out]; rfl, below_drewN HBE.out _⟩
              | true =>
                cases ye with
                | false =>
                  by_cases hb0 : bl = 0
                  · have e0 : decide (bl = 0) = true := by simpa using hb0
                    rw [e0] at HM
                    have z0 : ((bl : Int) == 0) = true := by simp; omega
                    have z1 : (bl : Int) = 0 := by omega
                    go_quiet (with_reducible first | exact Hbw.out _ _ | exact Hbk.out _ _ | exact Hbn.out _ _ | exact Hba.out _ _ | exact Hby_.out _ _ | exact Hbb.out _ _ | exact Hr1.out _ _ | exact Hr2.out _ _ | exact Hr3.out _ _ | exact Hr4.out _ _)
                    go_wp2
                    go_ret
                    exact ⟨by rw [HM.out]; rfl, below_drewN HBE.out _⟩
                  · have e0 : decide (bl = 0) = false := by simpa using hb0
                    rw [e0] at HM
                    have z0 : ((bl : Int) == 0) = false := by simp; omega
                    have z1 : ¬ (bl : Int) = 0 := by omega
                    cases bb with
                    | false =>
                      go_quiet (with_reducible first | exact Hbw.out _ _ | exact Hbk.out _ _ | exact Hbn.out _ _ | exact Hba.out _ _ | exact Hby_.out _ _ | exact Hbb.out _ _ | exact Hr1.out _ _ | exact Hr2.out _ _ | exact Hr3.out _ _ | exact Hr4.out _ _)
                      go_wp2
                      go_ret
                      exact ⟨by rw [HM.out]; rfl, below_drewN HBE.out _⟩
                    | true =>
                      go_quiet (with_reducible first | exact Hbw.out _ _ | exact Hbk.out _ _ | exact Hbn.out _ _ | exact Hba.out _ _ | exact Hby_.out _ _ | exact Hbb.out _ _ | exact Hr1.out _ _ | exact Hr2.out _ _ | exact Hr3.out _ _ | exact Hr4.out _ _)
                      go_wp2
                      go_ret
                      exact ⟨by rw [HM.out]; rfl, below_drewN HBE.out _⟩
                | true =>
                  cases by_ with
                  | false =>
                    go_quiet (with_reducible first | exact Hbw.out _ _ | exact Hbk.out _ _ | exact Hbn.out _ _ | exact Hba.out _ _ | exact Hby_.out _ _ | exact Hbb.out _ _ | exact Hr1.out _ _ | exact Hr2.out _ _ | exact Hr3.out _ _ | exact Hr4.out _ _)
                    go_wp2
                    go_ret
                    exact ⟨by rw [HM.out]; rfl, below_drewN HBE.out _⟩
                  | true =>
                    by_cases hb0 : bl = 0
                    · have e0 : decide (bl = 0) = true := by simpa using hb0
                      rw [e0] at HM
                      have z0 : ((bl : Int) == 0) = true := by simp; omega
                      have z1 : (bl : Int) = 0 := by omega
                      go_quiet (with_reducible first | exact Hbw.out _ _ | exact Hbk.out _ _ | exact Hbn.out _ _ | exact Hba.out _ _ | exact Hby_.out _ _ | exact Hbb.out _ _ | exact Hr1.out _ _ | exact Hr2.out _ _ | exact Hr3.out _ _ | exact Hr4.out _ _)
                      go_wp2
                      go_ret
                      exact ⟨by rw [HM.out]; rfl, below_drewN HBE.out _⟩
                    · have e0 : decide (bl = 0) = false := by simpa using hb0
                      rw [e0] at HM
                      have z0 : ((bl : Int) == 0) = false := by simp; omega
                      have z1 : ¬ (bl : Int) = 0 := by omega
                      cases bb with
                      | false =>
                        go_quiet (with_reducible first | exact Hbw.out _ _ | exact Hbk.out _ _ | exact Hbn.out _ _ | exact Hba.out _ _ | exact Hby_.out _ _ | exact Hbb.out _ _ | exact Hr1.out _ _ | exact Hr2.out _ _ | exact Hr3.out _ _ | exact Hr4.out _ _)
                        go_wp2
                        go_ret
                        exact ⟨by rw [HM.out]; rfl, below_drewN HBE.out _⟩
                      | true =>
                        go_quiet (with_reducible first | exact Hbw.out _ _ | exact Hbk.out _ _ | exact Hbn.out _ _ | exact Hba.out _ _ | exact Hby_.out _ _ | exact Hbb.out _ _ | exact Hr1.out _ _ | exact Hr2.out _ _ | exact Hr3.out _ _ | exact Hr4.out _ _)
                        go_wp2
                        go_ret
                        exact ⟨by rw [HM.out]; rfl, below_drewN HBE.out _⟩
end Go.Proofs.YteennbdakjjcfaaDoor
