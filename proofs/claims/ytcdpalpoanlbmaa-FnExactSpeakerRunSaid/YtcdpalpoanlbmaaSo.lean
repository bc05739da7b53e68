/- A run of the speakers, by the program, whatever it is given. -/
import Derived.Test.YtcdpalpoanlbmaaSi
namespace Go.Proofs.Ytcdpalpoanlbmaa
open Go Go.RowKit
set_option linter.unusedVariables false
set_option linter.unusedSimpArgs false
set_option maxRecDepth 100000 in
set_option maxHeartbeats 16000000 in
theorem irun_no (w : World) (lo hi : Nat) (A : Option Addr) (n c : Nat) (S : Nat → Sr) (h : Mtx w lo hi A n S) (hi' : hi ≤ w.heap.size) (hn : n ≤ 1048576) (hb : ∀ i, i < n → (S i).n ≤ 1048576) (hno : ¬ RunOk n S) :
    Calls Try.prog 6 #[.slice A n c] w (GivesL 0 [] w) := by
  have H := Lib.hid h
  have HN := Lib.hid hb
  have HNO := Lib.hid hno
  have ret0 : GivesL 0 [] w (.returned (.slice (some ⟨w.heap.size, 0, none⟩) 0 0)) (w.alloc (.cells #[] 3)) :=
    ⟨_, 0, (empty_row w 3 1 (intV (atLS []))).wide (Nat.le_refl _) (by simp), rfl, Ba w _⟩
  have HRET := Lib.hid ret0
  clear h hb hno ret0
  by_cases h20 : 20 < n
  · go_enter Try.func6, Try.ntmps6
    go_wp2_with fail
    refine bodyPost_retE rfl ?_
    apply Exists.intro
    refine ⟨?_, ?_⟩
    · simp only [results, Try.results6]
      go_simp
      first | done | rfl
    go_light
    exact HRET.out
  have h20' : n ≤ 20 := by omega
  go_enter Try.func6, Try.ntmps6
  go_wp2_with fail
  go_loopw [17] (fun i wr => ∃ k, k ≤ n ∧ i = .int .i64 (k : Nat) ∧ Hid (∀ i, i < k → LoudOk (S i).n (S i).z ∧ (S i).n = (S 0).n) ∧ w = wr) (fun i _ => n - (intOf i).toNat)
  case atStart => exact ⟨0, Nat.zero_le _, rfl, Lib.hid (fun i hi => absurd hi (by omega)), rfl⟩
  case round =>
    obtain ⟨k, hk, rfl, HK, rfl⟩ := hrel
    by_cases hkn : k < n
    rotate_left
    · obtain rfl : k = n := by omega
      exact absurd ⟨h20', HK.out⟩ HNO.out
    obtain ⟨b, off, rfl, -, hb2, hcl⟩ := Sr_all H.out.1 (show 0 < n by omega)
    have c0 := hcl 0 (by omega)
    have ck := hcl k hkn
    rw [Nat.add_zero] at c0
    have hn0 : 0 < n := by omega
    have hbw : b < w.heap.size := by omega
    have hlv := iloud_any (c := (S k).c) w (H.out.2 k hkn) (HN.out k hkn)
    clear hcl
    by_cases hl : LoudOk (S k).n (S k).z
    rotate_left
    · rw [loudB_f hl] at hlv
      have HL := Lib.hid hlv
      clear hlv hl
      go_wp2_with fail
      refine HL.out.mono ?_
      rintro e w2 ⟨rfl, rfl⟩
      go_wp2_with fail
      refine bodyPost_retE rfl ?_
      apply Exists.intro
      refine ⟨?_, ?_⟩
      · simp only [results, Try.results6]
        go_simp
        first | done | rfl
      go_light
      exact HRET.out
    rw [loudB_t hl] at hlv
    have HL := Lib.hid hlv
    have HLK := Lib.hid hl
    clear hlv hl
    by_cases he : (S k).n = (S 0).n
    rotate_left
    · have heb : (((S k).n : Int) != ((S 0).n : Int)) = true := by simp [bne]; omega
      have heb2 : ((S k).n : Int) ≠ ((S 0).n : Int) := by omega
      go_wp2_with fail
      refine HL.out.mono ?_
      rintro e w2 ⟨rfl, rfl⟩
      go_wp2_with fail
      refine bodyPost_retE rfl ?_
      apply Exists.intro
      refine ⟨?_, ?_⟩
      · simp only [results, Try.results6]
        go_simp
        first | done | rfl
      go_light
      exact HRET.out
    have HE := Lib.hid he
    rw [← he] at c0
    have hxx : (((S k).n : Int) != ((S k).n : Int)) = false := by simp
    clear he
    go_wp2_with fail
    refine HL.out.mono ?_
    rintro e w2 ⟨rfl, rfl⟩
    go_wp2_with fail
    go_roundw
    case rel =>
      refine ⟨k + 1, by omega, by go_num, Lib.hid (fun i hi => ?_), by first | rfl | trivial⟩
      by_cases e : i = k
      · subst e; exact ⟨HLK.out, HE.out⟩
      · exact HK.out i (by omega)
    case measure => simp [intOf]; omega
theorem irun_any (w : World) (lo hi : Nat) (A : Option Addr) (n c : Nat) (S : Nat → Sr) (h : Mtx w lo hi A n S) (hi' : hi ≤ w.heap.size) (hn : n ≤ 1048576) (hb : ∀ i, i < n → (S i).n ≤ 1048576) :
    Calls Try.prog 6 #[.slice A n c] w (GivesL (runR n S).length (runR n S) w) := by
  by_cases hok : RunOk n S
  · rw [show runR n S = runL S n from if_pos hok, runL_len]
    exact irun_ok w lo hi A n c S h hi' hok
  · rw [show runR n S = [] from if_neg hok]
    exact irun_no w lo hi A n c S h hi' hn hb hok
end Go.Proofs.Ytcdpalpoanlbmaa
