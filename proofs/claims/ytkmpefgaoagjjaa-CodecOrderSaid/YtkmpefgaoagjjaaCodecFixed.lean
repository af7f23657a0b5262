/-
  The fixed calls of the codec's laws.
-/
import Derived.Test.YtkmpefgaoagjjaaReader
namespace Go.Proofs.Ytkmpefgaoagjjaa
open Go.RowKit

theorem Keeps.step {w w1 w2 : World} {A : Nat} (h : Keeps [] w w1) (k : Keeps [A] w1 w2) (hA : w.heap.size ≤ A) : Keeps [] w w2 :=
  ((h.sub (S' := [A]) (by simp)).trans k).mono fun x hx hm => by simp at hm; omega

def fTxt : ByteArray := ⟨#[5, 0, 2, 97, 98, 0, 0, 0, 0, 0, 0, 0, 7, 48, 49, 50, 51, 52, 53, 54, 55, 56, 57, 97, 98, 99, 100, 101, 102]⟩

set_option maxHeartbeats 4000000 in
theorem fixed_c {w : World} : Calls Try.prog 19 #[] w fun e w' => e = .returned (.bool true) ∧ Keeps [] w w' := by
  go_enter Try.func19, Try.ntmps19
  go_wp2_with fail
  obtain ⟨w0, hw0⟩ : ∃ w0, w0 = w.alloc (.cells #[.string ⟨#[]⟩, .int .i64 0] 27) := ⟨_, rfl⟩
  rw [← hw0]
  obtain ⟨A, hA⟩ : ∃ A, A = w.heap.size := ⟨_, rfl⟩
  rw [← hA]
  have hle : w.heap.size ≤ A := by omega
  have h0 : WAt 27 w0 A (⟨#[]⟩, 0) := ⟨by rw [hw0, hA]; exact heap_alloc_same⟩
  have K0 : Keeps [] w w0 := by rw [hw0]; exact (Keeps.refl _ _).alloc _
  clear hw0 hA
  have c1 : wByte (⟨#[]⟩, 0) 5 = (⟨#[5]⟩, 0) := by kernel_rfl
  have c2 : wBlob (⟨#[5]⟩, 0) ⟨#[97, 98]⟩ = (⟨#[5, 0, 2, 97, 98]⟩, 0) := by kernel_rfl
  have c3 : wNum (⟨#[5, 0, 2, 97, 98]⟩, 0) 7 = (⟨#[5, 0, 2, 97, 98, 0, 0, 0, 0, 0, 0, 0, 7]⟩, 0) := by kernel_rfl
  have c4 : wHash (⟨#[5, 0, 2, 97, 98, 0, 0, 0, 0, 0, 0, 0, 7]⟩, 0) ⟨#[48, 49, 50, 51, 52, 53, 54, 55, 56, 57, 97, 98, 99, 100, 101, 102]⟩ = (fTxt, 0) := by kernel_rfl
  have c5 : wText (fTxt, 0) = fTxt := by kernel_rfl
  refine (byte_w h0 5 (by decide)).mono ?_
  rintro e w1 ⟨rfl, h1, k1⟩
  rw [c1] at h1
  have K1 := K0.step k1 hle
  go_wp2_with fail
  refine (blob_w h1 ⟨#[97, 98]⟩ (by decide) (by decide)).mono ?_
  rintro e w2 ⟨rfl, h2, k2⟩
  rw [c2] at h2
  have K2 := K1.step k2 hle
  go_wp2_with fail
  refine (num_w h2 7 (by decide) (by decide)).mono ?_
  rintro e w3 ⟨rfl, h3, k3⟩
  rw [c3] at h3
  have K3 := K2.step k3 hle
  go_wp2_with fail
  refine (hash_w h3 ⟨#[48, 49, 50, 51, 52, 53, 54, 55, 56, 57, 97, 98, 99, 100, 101, 102]⟩ (by decide) (by decide)).mono ?_
  rintro e w4 ⟨rfl, h4, k4⟩
  rw [c4] at h4
  have K4 := K3.step k4 hle
  clear K0 K1 K2 K3 k1 k2 k3 k4 h0 h1 h2 h3 c1 c2 c3 c4
  go_wp2_with fail
  refine (text_w h4).mono ?_
  rintro e w5 ⟨rfl, rfl⟩
  rw [c5]
  clear c5
  go_wp2_with fail
  refine (read_c fTxt).mono ?_
  rintro e w5 ⟨rfl, h5, k5⟩
  have K5 := K4.trans k5
  have hR : A < w4.heap.size := h4.lt
  have H5 := h4.keep k5 (by simp)
  generalize w4.heap.size = R at *
  clear h4 k5 K4
  have r1 : rByte (fTxt, 0) = 5 := by kernel_rfl
  have r2 : rGo 1 (fTxt, 0) = (fTxt.extract 1 29, 0) := by kernel_rfl
  have r3 : rBlob 2 (fTxt.extract 1 29, 0) = ⟨#[97, 98]⟩ := by kernel_rfl
  have r4 : rBlobGo 2 (fTxt.extract 1 29, 0) = (fTxt.extract 5 29, 0) := by kernel_rfl
  have r5 : rNum (fTxt.extract 5 29, 0) = 7 := by kernel_rfl
  have r6 : rGo 8 (fTxt.extract 5 29, 0) = (fTxt.extract 13 29, 0) := by kernel_rfl
  have r7 : rGet 16 (fTxt.extract 13 29, 0) = ⟨#[48, 49, 50, 51, 52, 53, 54, 55, 56, 57, 97, 98, 99, 100, 101, 102]⟩ := by kernel_rfl
  have r8 : rGo 16 (fTxt.extract 13 29, 0) = (ByteArray.empty, 0) := by kernel_rfl
  have r9 : rEnd (ByteArray.empty, 0) = 0 := by kernel_rfl
  have r10 : rBlob 1 (fTxt.extract 1 29, 0) = ⟨#[]⟩ := by kernel_rfl
  have r11 : rBlobGo 1 (fTxt.extract 1 29, 0) = (fTxt.extract 1 29, 5) := by kernel_rfl
  have r12 : rEnd (fTxt.extract 1 29, 5) = 5 := by kernel_rfl
  have r13 : (fTxt.extract 1 29).size = 28 := by kernel_rfl
  have hleR : w.heap.size ≤ R := by omega
  go_wp2_with fail
  refine (byte_c h5).mono ?_
  rintro e w6 ⟨rfl, h6, k6⟩
  rw [r2] at h6
  rw [r1]
  have K6 := K5.step k6 hleR
  have H6 := H5.keep k6 (by simp; omega)
  clear K5 H5 k6 h5
  go_wp2_with fail
  refine (blob_c h6 2).mono ?_
  rintro e w7 ⟨rfl, h7, k7⟩
  rw [r4] at h7
  rw [r3]
  have K7 := K6.step k7 hleR
  have H7 := H6.keep k7 (by simp; omega)
  clear K6 H6 k7 h6
  go_wp2_with fail
  refine (num_c h7).mono ?_
  rintro e w8 ⟨rfl, h8, k8⟩
  rw [r6] at h8
  rw [r5]
  have K8 := K7.step k8 hleR
  have H8 := H7.keep k8 (by simp; omega)
  clear K7 H7 k8 h7
  go_wp2_with fail
  refine (hash_c h8).mono ?_
  rintro e w9 ⟨rfl, h9, k9⟩
  rw [r8] at h9
  rw [r7]
  have K9 := K8.step k9 hleR
  have H9 := H8.keep k9 (by simp; omega)
  clear K8 H8 k9 h8
  go_wp2_with fail
  refine (end_c h9).mono ?_
  rintro e w10 ⟨rfl, k10⟩
  rw [r9]
  have K10 := K9.trans k10
  have H10 := H9.keep k10 (by simp)
  clear K9 H9 k10 h9
  go_wp2_with fail
  refine (read_c fTxt).mono ?_
  rintro e w11 ⟨rfl, h11, k11⟩
  have K11 := K10.trans k11
  have hX : A < w10.heap.size := H10.lt
  have H11 := H10.keep k11 (by simp)
  generalize w10.heap.size = X at *
  clear H10 k11 K10
  have hleX : w.heap.size ≤ X := by omega
  go_wp2_with fail
  refine (byte_c h11).mono ?_
  rintro e w12 ⟨rfl, h12, k12⟩
  rw [r2] at h12
  have K12 := K11.step k12 hleX
  have H12 := H11.keep k12 (by simp; omega)
  clear K11 H11 k12 h11
  go_wp2_with fail
  refine (blob_c h12 1).mono ?_
  rintro e w13 ⟨rfl, h13, k13⟩
  rw [r11] at h13
  rw [r10]
  have K13 := K12.step k13 hleX
  have H13 := H12.keep k13 (by simp; omega)
  clear K12 H12 k13 h12
  go_wp2_with fail
  refine (end_c h13).mono ?_
  rintro e w14 ⟨rfl, k14⟩
  rw [r12]
  have K14 := K13.trans k14
  have H14 := H13.keep k14 (by simp)
  have h14 := h13.keep k14 (by simp)
  clear K13 H13 k14 h13
  go_wp2_with fail
  refine (left_c h14).mono ?_
  rintro e w15 ⟨rfl, rfl⟩
  rw [r13]
  clear h14
  go_wp2_with fail
  obtain ⟨w20, hw20⟩ : ∃ w20, w20 = w14.alloc (.cells #[.string ⟨#[]⟩, .int .i64 0] 27) := ⟨_, rfl⟩
  rw [← hw20]
  have hAB := H14.lt
  obtain ⟨B, hB⟩ : ∃ B, B = w14.heap.size := ⟨_, rfl⟩
  rw [← hB]
  have hleB : w.heap.size ≤ B := by omega
  have h20 : WAt 27 w20 B (⟨#[]⟩, 0) := ⟨by rw [hw20, hB]; exact heap_alloc_same⟩
  have k20 : Keeps [] w14 w20 := by rw [hw20]; exact (Keeps.refl _ _).alloc _
  have K20 := K14.trans k20
  have H20 := H14.keep k20 (by simp)
  have hAB' : A < B := by omega
  clear hw20 hB hAB K14 H14 k20
  have b1 : wByte (⟨#[]⟩, 0) 256 = (⟨#[]⟩, 1) := by kernel_rfl
  have b2 : wHash (⟨#[]⟩, 1) ⟨#[]⟩ = (⟨#[]⟩, 1) := by kernel_rfl
  have b3 : wText (⟨#[]⟩, 1) = ⟨#[]⟩ := by kernel_rfl
  refine (byte_w h20 256 (by decide)).mono ?_
  rintro e w21 ⟨rfl, h21, k21⟩
  rw [b1] at h21
  have K21 := K20.step k21 hleB
  have H21 := H20.keep k21 (by simp; omega)
  clear K20 H20 k21 h20
  go_wp2_with fail
  refine (hash_w h21 ⟨#[]⟩ (by decide) (by decide)).mono ?_
  rintro e w22 ⟨rfl, h22, k22⟩
  rw [b2] at h22
  have K22 := K21.step k22 hleB
  have H22 := H21.keep k22 (by simp; omega)
  clear K21 H21 k22 h21
  go_wp2_with fail
  refine (read_c ⟨#[97, 98]⟩).mono ?_
  rintro e w23 ⟨rfl, h23, k23⟩
  have K23 := K22.trans k23
  have hY : B < w22.heap.size := h22.lt
  have H23 := H22.keep k23 (by simp)
  have G23 := h22.keep k23 (by simp)
  generalize w22.heap.size = Y at *
  clear H22 k23 K22 h22
  have hleY : w.heap.size ≤ Y := by omega
  have y1 : rGo 1 (⟨#[97, 98]⟩, 0) = (⟨#[98]⟩, 0) := by kernel_rfl
  have y2 : rEnd (⟨#[98]⟩, 0) = 4 := by kernel_rfl
  go_wp2_with fail
  refine (byte_c h23).mono ?_
  rintro e w24 ⟨rfl, h24, k24⟩
  rw [y1] at h24
  have K24 := K23.step k24 hleY
  have H24 := H23.keep k24 (by simp; omega)
  have G24 := G23.keep k24 (by simp; omega)
  clear K23 H23 G23 k24 h23
  have hft : fTxt = ⟨#[5, 0, 2, 97, 98, 0, 0, 0, 0, 0, 0, 0, 7, 48, 49, 50, 51, 52, 53, 54, 55, 56, 57, 97, 98, 99, 100, 101, 102]⟩ := rfl
  have E24 := err_w H24
  have F24 := err_w G24
  have T24 := text_w G24
  have y3 : (⟨#[98]⟩ : ByteArray).size = 1 := by kernel_rfl
  rw [b3] at T24
  dsimp only at E24 F24
  rw [hft]
  clear r1 r2 r3 r4 r5 r6 r7 r8 r9 r10 r11 r12 r13 b1 b2 b3 y1 hft H24 G24
  go_wp2_with fail
  refine E24.mono ?_
  rintro e w25 ⟨rfl, rfl⟩
  go_wp2_with fail
  refine F24.mono ?_
  rintro e w25 ⟨rfl, rfl⟩
  go_wp2_with fail
  refine T24.mono ?_
  rintro e w25 ⟨rfl, rfl⟩
  go_wp2_with fail
  refine (end_c h24).mono ?_
  rintro e w26 ⟨rfl, k26⟩
  rw [y2]
  have K26 := K24.trans k26
  have h26 := h24.keep k26 (by simp)
  clear K24 k26 h24 y2 E24 F24 T24
  go_wp2_with fail
  refine (left_c h26).mono ?_
  rintro e w27 ⟨rfl, rfl⟩
  rw [y3]
  go_wp2
  go_ret
  exact ⟨rfl, K26⟩
end Go.Proofs.Ytkmpefgaoagjjaa
