/- pages.Check. -/
import Derived.Test.YtpbmjfjnmcpieaaChR
set_option linter.unusedVariables false
set_option linter.unusedSimpArgs false
namespace Go.Proofs.Ytpbmjfjnmcpieaa
open Go Go.RowKit
/-- may pages be -/
def chkP (L : List Pg) : Bool := decide (L.length ≤ 64) && L.all oneP && goP 0 L
def chkE (L : List Pg) : Int := if chkP L then 0 else 4
theorem any_not_all (L : List Pg) : L.any (fun p => !oneP p) = !L.all oneP := by
  rw [Bool.eq_iff_iff]; simp
theorem goP_cons (m : Nat) (p : Pg) (l : List Pg) : goP m (p :: l) = if decide (0 < m) != tailP p then false else if 0 < m then goP (m - 1) l else if p.kind = 2 then goP (p.run - 1) l else goP 0 l := rfl
set_option maxRecDepth 100000 in
set_option maxHeartbeats 4000000 in
theorem pcheck_c (a : Option Addr) (n cap : Nat) (L : List Pg) (hn : L.length = n) (hnm : n ≤ 1000000) (hsz : ∀ p ∈ L, p.size < 4611686018427387904) (w : World) (hR : PgsAt w a L) :
    Calls Try.prog 54 #[.slice a n cap] w fun e w' => e = .returned (.int .i64 (chkE L)) ∧ Below w.heap.size w w' := by
  have HCF := Lib.hid (cf_bad_c a n cap L hn hnm hsz w hR)
  rw [any_not_all] at HCF
  have HN := Lib.hid hn
  have HR := Lib.hid hR
  by_cases hbig : n > 64
  · have d1 : decide ((n : Int) > 64) = true := by simp; omega
    have i1 : 64 < (n : Int) := by omega
    have HM : Hid (chkE L = 4) := by show _ = _; unfold chkE chkP; rw [hn, show decide (n ≤ 64) = false by simp; omega]; rfl
    clear hn hnm hsz hR hbig
    go_enter Try.func54, Try.ntmps54
    go_wp2
    go_ret
    exact ⟨by rw [HM.out]; rfl, Below.refl _ _⟩
  · have d1 : decide ((n : Int) > 64) = false := by simp; omega
    have i1 : ¬ 64 < (n : Int) := by omega
    by_cases hall : L.all oneP = true
    · rw [show (!L.all oneP) = false by rw [hall]; rfl] at HCF
      have HM : Hid (chkP L = goP 0 (L.drop 0)) := by show _ = _; unfold chkP; rw [hn, hall, show decide (n ≤ 64) = true by simp; omega]; rfl
      have HN64 : Hid (n ≤ 64) := by show _ ≤ _; omega
      have HONE : Hid (∀ p ∈ L, oneP p = true) := by rw [List.all_eq_true] at hall; exact hall
      clear hn hnm hsz hR hbig hall
      go_enter Try.func54, Try.ntmps54
      go_wp2_with fail
      refine HCF.out.mono ?_
      rintro e w0 ⟨rfl, hb0⟩
      have HE0 := Lib.hid hb0
      clear hb0
      go_wp2
      go_loopw [3, 15] (fun vm vi wr => ∃ k m : Nat, k ≤ n ∧ m ≤ 63 ∧ vi = .int .i64 (k : Int) ∧ vm = .int .i64 (m : Int) ∧ Hid (chkP L = goP m (L.drop k)) ∧ Hid (Below w.heap.size w wr)) (fun _ vi _ => n - (intOf vi).toNat)
      case atStart => exact ⟨0, 0, by omega, by omega, rfl, rfl, HM.out, HE0.out⟩
      case round =>
        clear HM HE0 HCF
        obtain ⟨k, m, hk, hm63, rfl, rfl, hgo, hbel⟩ := hrel
        by_cases hlt : k < n
        · have hd : decide ((k : Int) < (n : Int)) = true := by simp; omega
          have dl : (k : Int) < (n : Int) := by omega
          have d0 : ¬ (k : Int) < 0 := by omega
          have hkl : k < L.length := by rw [HN.out]; exact hlt
          have hget := List.getElem?_eq_getElem hkl
          obtain ⟨p, hp⟩ : ∃ p, p = L[k] := ⟨_, rfl⟩
          have hdrop : L.drop k = p :: L.drop (k + 1) := by rw [hp]; exact List.drop_eq_getElem_cons hkl
          have hone : oneP p = true := HONE.out p (by rw [hp]; exact List.getElem_mem _)
          have hgo2 := hgo.out
          rw [hdrop, goP_cons] at hgo2
          rw [← hp] at hget
          obtain ⟨g, o, rfl, hg, hcell⟩ := HR.out k p hget
          have HC : Hid (wr.rangeAt g (o + k * 5) (pgA p).toList) := fun j u hu => (hbel.out.cell (p := ⟨g, o + k * 5 + j, none⟩) hg).trans (hcell j u hu)
          have HK := Lib.hid hlt
          have ek : IntKind.i64.wrap ((k : Int) + 1) = (k : Int) + 1 := by have := HN64.out; exact IntWalk.i64_in _ (by omega)
          have HZ : Hid ((wr.alloc (.cells #[.int .i64 0, .int .i64 0, .int .i64 0, .int .i64 0, .int .u64 0] 81)).heap[wr.heap.size]? = some (.cells (pgA ⟨0, 0, 0, 0, 0⟩) 81 (0, 0))) := heap_new' _ _
          have HE1 : Hid (Below w.heap.size w (wr.alloc (.cells #[.int .i64 0, .int .i64 0, .int .i64 0, .int .i64 0, .int .u64 0] 81))) := hbel.out.trans ((below_box wr _).mono hbel.out.size)
          have HM63 := Lib.hid hm63
          have HRUN : Hid (p.kind = 2 → 1 ≤ p.run ∧ p.run ≤ 64) := by
            intro h2
            have h1 := run_pos hone h2
            refine ⟨h1, ?_⟩
            rcases oneP_kind hone with ⟨k', _⟩ | ⟨k', _⟩ | ⟨_, h3⟩ | ⟨k', _⟩
            · omega
            · omega
            · unfold headP pagesOf at h3
              simp only [Bool.and_eq_true, beq_iff_eq, decide_eq_true_eq] at h3
              omega
            · omega
          have HG2 := Lib.hid hgo2
          clear hget hp hkl hg hcell hk hlt hdrop hone hgo2 hgo hm63
          have HTL := Lib.hid (fun w => pgtail_c p w)
          go_wp2_with (first
            | (refine wpList_load_mid rfl 81 (.tmp 17) rfl g (o + k * 5) rfl _ _ HC.out Try.underlying81 rfl (by rw [page5]; rfl) ?_)
            | (refine wpList_store_row rfl 81 (.tmp 5) (.tmp 18) rfl wr.heap.size (pgA p) rfl rfl 81 _ HZ.out (by rw [page5]; rfl) rfl (pgA_one _) ?_; generalize hW1 : World.setRow _ _ _ = w1; have HZ1 : Hid (w1.heap[wr.heap.size]? = some (.cells (pgA p) 81 (0, 0))) := (by show _ = _; rw [← hW1]; exact setRow_heap _ _ _ _ _ _ HZ.out); have HE2 : Hid (Below w.heap.size w w1) := (by rw [← hW1]; exact below_setRow HE1.out hbel.out.size _); clear hW1)
            | (refine wpList_load_row rfl 81 (.tmp 5) rfl wr.heap.size rfl _ _ _ _ HZ1.out Try.underlying81 rfl (by rw [page5]; rfl) ?_)
            | fail)
          refine (HTL.out w1).mono ?_
          rintro e w3 ⟨rfl, hb3⟩
          have HZ3 := Lib.hid ((hb3.block _ (lt_of_block HZ1.out)).trans HZ1.out)
          have HE3 : Hid (Below w.heap.size w w3) := HE2.out.trans (hb3.mono HE2.out.size)
          have c0 := (cells_at HZ3.out 0).trans (show _ = some (Value.int .i64 (p.kind : Int)) from rfl)
          have c2 := (cells_at HZ3.out 2).trans (show _ = some (Value.int .i64 (p.run : Int)) from rfl)
          obtain ⟨t, ht⟩ : ∃ t, t = tailP p := ⟨_, rfl⟩
          obtain ⟨kd, hkd⟩ : ∃ kd, kd = p.kind := ⟨_, rfl⟩
          obtain ⟨rn, hrn⟩ : ∃ rn, rn = p.run := ⟨_, rfl⟩
          rw [← ht] at HG2 ⊢
          rw [← hkd] at HG2 c0 HRUN
          rw [← hrn] at HG2 c2 HRUN
          clear hb3 HZ1 HE2 HE1 HZ hbel ht hkd hrn HTL
          by_cases hm0 : 0 < m
          · have dm : decide ((m : Int) > 0) = true := by simp; omega
            have im : 0 < (m : Int) := by omega
            have dn : decide (0 < m) = true := decide_eq_true hm0
            have em : IntKind.i64.wrap ((m : Int) - 1) = ((m - 1 : Nat) : Int) := by
              rw [show (m : Int) - 1 = ((m - 1 : Nat) : Int) by omega]; exact IntWalk.i64_in _ (by have := HM63.out; omega)
            cases t with
            | true =>
              have HG3 : Hid (chkP L = goP (m - 1) (L.drop (k + 1))) := by show _ = _; rw [HG2.out, decide_eq_true hm0, if_pos hm0]; rfl
              obtain ⟨m1, hm1⟩ : ∃ m1, m1 = m - 1 := ⟨_, rfl⟩
              rw [← hm1] at HG3 em
              have HM1 : Hid (m1 ≤ 63) := by have := HM63.out; show _ ≤ _; omega
              clear hm0 HG2 hm1
              go_wp2
              go_roundw
              case rel => exact ⟨k + 1, m1, by have := HK.out; omega, HM1.out, by go_num, rfl, HG3.out, HE3.out⟩
              case measure => simp [intOf]; have := HK.out; omega
            | false =>
              have HG3 : Hid (chkE L = 4) := by show _ = _; unfold chkE; rw [HG2.out, decide_eq_true hm0]; rfl
              clear hm0 HG2
              go_wp2
              go_ret
              exact ⟨by rw [HG3.out]; rfl, HE3.out⟩
          · have dm : decide ((m : Int) > 0) = false := by simp; omega
            have im : ¬ 0 < (m : Int) := by omega
            have dn : decide (0 < m) = false := decide_eq_false hm0
            cases t with
            | true =>
              have HG3 : Hid (chkE L = 4) := by show _ = _; unfold chkE; rw [HG2.out, decide_eq_false hm0]; rfl
              clear hm0 HG2
              go_wp2
              go_ret
              exact ⟨by rw [HG3.out]; rfl, HE3.out⟩
            | false =>
              by_cases h2 : kd = 2
              · have d2 : ((kd : Int) == 2) = true := by rw [h2]; rfl
                have i2 : (kd : Int) = 2 := by omega
                have hr := HRUN.out h2
                have er : IntKind.i64.wrap ((rn : Int) - 1) = ((rn - 1 : Nat) : Int) := by
                  rw [show (rn : Int) - 1 = ((rn - 1 : Nat) : Int) by omega]; exact IntWalk.i64_in _ (by omega)
                have HG3 : Hid (chkP L = goP (rn - 1) (L.drop (k + 1))) := by show _ = _; rw [HG2.out, decide_eq_false hm0, if_neg hm0, if_pos h2]; rfl
                obtain ⟨m1, hm1⟩ : ∃ m1, m1 = rn - 1 := ⟨_, rfl⟩
                rw [← hm1] at HG3 er
                have HM1 : Hid (m1 ≤ 63) := by show _ ≤ _; omega
                clear hm0 HG2 hm1 hr h2
                go_wp2
                go_roundw
                case rel => exact ⟨k + 1, m1, by have := HK.out; omega, HM1.out, by go_num, rfl, HG3.out, HE3.out⟩
                case measure => simp [intOf]; have := HK.out; omega
              · have d2 : ((kd : Int) == 2) = false := by rw [beq_eq_false_iff_ne]; omega
                have i2 : ¬ (kd : Int) = 2 := by omega
                have HG3 : Hid (chkP L = goP 0 (L.drop (k + 1))) := by show _ = _; rw [HG2.out, decide_eq_false hm0, if_neg hm0, if_neg h2]; rfl
                have HM0 : Hid (m = 0) := by show _ = _; omega
                clear hm0 HG2 h2
                go_wp2
                go_roundw
                case rel => exact ⟨k + 1, m, by have := HK.out; omega, HM63.out, by go_num, rfl, by have h := HG3.out; rw [← HM0.out] at h; exact h, HE3.out⟩
                case measure => simp [intOf]; have := HK.out; omega
        · have hd : decide ((k : Int) < (n : Int)) = false := by simp; omega
          have dl : ¬ (k : Int) < (n : Int) := by omega
          have hgo2 := hgo.out
          rw [List.drop_of_length_le (by rw [HN.out]; omega)] at hgo2
          have hg3 : chkP L = (m == 0) := hgo2
          clear hgo hgo2 hlt hk
          by_cases hm0 : 0 < m
          · have dm : decide ((m : Int) > 0) = true := by simp; omega
            have im : 0 < (m : Int) := by omega
            have dn : decide (0 < m) = true := decide_eq_true hm0
            have HG3 : Hid (chkE L = 4) := by show _ = _; unfold chkE; rw [hg3, show (m == 0) = false by simp; omega]; rfl
            clear hm0 hg3
            go_wp2
            go_ret
            exact ⟨by rw [HG3.out]; rfl, hbel.out⟩
          · have dm : decide ((m : Int) > 0) = false := by simp; omega
            have im : ¬ 0 < (m : Int) := by omega
            have dn : decide (0 < m) = false := decide_eq_false hm0
            have HG3 : Hid (chkE L = 0) := by show _ = _; unfold chkE; rw [hg3, show (m == 0) = true by simp; omega]; rfl
            clear hm0 hg3
            go_wp2
            go_ret
            exact ⟨by rw [HG3.out]; rfl, hbel.out⟩
    · have hallf : L.all oneP = false := by simpa using hall
      rw [show (!L.all oneP) = true by rw [hallf]; rfl] at HCF
      have HM : Hid (chkE L = 4) := by show _ = _; unfold chkE chkP; rw [hallf]; simp
      clear hn hnm hsz hR hbig hall hallf
      go_enter Try.func54, Try.ntmps54
      go_wp2_with fail
      refine HCF.out.mono ?_
      rintro e w0 ⟨rfl, hb0⟩
      have HE0 := Lib.hid hb0
      clear hb0
      go_wp2
      go_ret
      exact ⟨by rw [HM.out]; rfl, HE0.out⟩
end Go.Proofs.Ytpbmjfjnmcpieaa
