/- The document's example of the pipe, and PipeWindows. -/
import Derived.Test.YtpldhdomanikiaaPipeR
namespace Go.Proofs.Ytpldhdomanikiaa
open Go.RowKit
set_option linter.unusedSimpArgs false
set_option linter.unusedVariables false

def wA : Wn := ⟨⟨#[97]⟩, ⟨#[]⟩, false, 0⟩
def wB : Wn := ⟨⟨#[98]⟩, ⟨#[]⟩, false, 0⟩
theorem ahF_smtp (c : ByteArray) : ahF 1 c = false := rfl

theorem shown_calls (w : World) :
    Calls Try.prog 7 #[] w fun e w' => e = .returned (.bool true) ∧ Kp Non w w' := by
  go_enter Try.func7, Try.ntmps7
  go_wp2_with fail
  refine (new_calls _).mono ?_
  rintro e w1 ⟨g, rfl, hg, p1, k1⟩
  go_wp2_with fail
  refine (push_calls g _ wA _ p1).mono ?_
  rintro e w2 ⟨rfl, p2, k2⟩
  have K2 : Kp Non w w2 := k1.seqNew k2 (fun i hi => by rw [show i = g from hi]; exact hg)
  go_wp2_with fail
  refine (push_calls g _ wB _ p2).mono ?_
  rintro e w3 ⟨rfl, p3, k3⟩
  have K3 : Kp Non w w3 := K2.seqNew k3 (fun i hi => by rw [show i = g from hi]; exact hg)
  go_wp2_with fail
  refine (reply_calls g _ 1 ⟨#[50, 53, 48]⟩ _ p3).mono ?_
  rintro e w4 ⟨rfl, p4, k4⟩
  have K4 : Kp Non w w4 := K3.seqNew k4 (fun i hi => by rw [show i = g from hi]; exact hg)
  simp only [pushF, replyF, ahF_smtp, List.length_nil, List.nil_append, List.length_cons, List.headD_cons, List.tail_cons, Bool.false_eq_true, if_false, if_true, List.cons_append, show (0 : Nat) < 8 by omega, show 0 + 1 < 8 by omega] at p4 ⊢
  simp only [wA, Wn.val, ne_eq, not_false_eq_true, decide_true, Bool.not_false, Bool.and_true, reduceCtorEq]
  have hA := (Kp.refl Non w4).alloc (.cells #[.string ⟨#[97]⟩, .string ⟨#[]⟩, .bool false, .int .i64 0] 28)
  go_wp2_with fail
  refine (reply_calls g _ 1 ⟨#[50, 53, 48]⟩ _ (p4.keep hA)).mono ?_
  rintro e w5 ⟨rfl, p5, k5⟩
  have hgl := p4.lt
  have hB : WnBlk w5 w4.heap.size wA := Blk.kp (Blk.new w4 #[.string ⟨#[97]⟩, .string ⟨#[]⟩, .bool false, .int .i64 0] 28) k5 (fun h => by have : w4.heap.size = g := h; omega)
  have K5 : Kp Non w w5 := (K4.seq hA).seqNew k5 (fun i hi => by rw [show i = g from hi]; exact hg)
  simp only [pushF, replyF, ahF_smtp, List.length_nil, List.nil_append, List.length_cons, List.headD_cons, List.tail_cons, Bool.false_eq_true, if_false, if_true, List.cons_append, show (0 : Nat) < 8 by omega, show 0 + 1 < 8 by omega] at p5 ⊢
  simp only [wB, Wn.val, ne_eq, not_false_eq_true, decide_true, Bool.not_false, Bool.and_true, reduceCtorEq]
  obtain ⟨b0, _, _, _⟩ := hB.at
  simp only [wA] at b0
  have hA2 := (Kp.refl Non w5).alloc (.cells #[.string ⟨#[98]⟩, .string ⟨#[]⟩, .bool false, .int .i64 0] 28)
  have p6 := p5.keep hA2
  have b1 := hA2.cell b0 (fun x => x)
  clear p1 p2 p3 p4 p5 hA hB k1 k2 k3 k4 k5 K2 K3 K4
  go_wp2_with fail
  refine (len_calls g _ _ p6).mono ?_
  rintro e w7 ⟨rfl, k7⟩
  go_wp2
  go_ret
  exact ⟨rfl, (K5.seq hA2).seq k7⟩

theorem windows_walk (w : World) (p a : Int) (bp : -9223372036854775808 ≤ p ∧ p ≤ 9223372036854775807) (ba : -9223372036854775808 ≤ a ∧ a ≤ 9223372036854775807) :
    Calls Try.prog 4 #[.int .i64 p, .int .i64 a] w fun e w' => e = .returned (.bool true) ∧ Kp Non w w' := by
  go_enter Try.func4, Try.ntmps4
  go_wp2_with fail
  refine (shown_calls _).mono ?_
  rintro e w1 ⟨rfl, k1⟩
  go_wp2_with fail
  refine (window_calls p a true _).mono ?_
  rintro e w2 ⟨rfl, k2⟩
  go_wp2_with fail
  refine (window_calls p a false _).mono ?_
  rintro e w3 ⟨rfl, k3⟩
  have K := (k1.seq k2).seq k3
  have e1 : winF p a false = 1 := by simp [winF]
  rw [e1]
  by_cases hp : p = 3
  · subst hp
    have e2 : winF 3 a true = 1 := by simp [winF]
    rw [e2]
    go_wp2
    go_ret
    exact ⟨rfl, K⟩
  · have hp' : (p == 3) = false := by simpa using hp
    have e2 : winF p a true = min (max a 1) 8 := by simp [winF, hp]
    rw [e2]
    by_cases c1 : a < 1
    · have e3 : min (max a 1) 8 = 1 := by omega
      rw [e3]
      go_wp2
      go_ret
      exact ⟨rfl, K⟩
    · by_cases c2 : 8 < a
      · have e3 : min (max a 1) 8 = 8 := by omega
        rw [e3]
        go_wp2
        go_ret
        exact ⟨rfl, K⟩
      · have e3 : min (max a 1) 8 = a := by omega
        rw [e3]
        go_wp2
        go_ret
        exact ⟨rfl, K⟩

end Go.Proofs.Ytpldhdomanikiaa
