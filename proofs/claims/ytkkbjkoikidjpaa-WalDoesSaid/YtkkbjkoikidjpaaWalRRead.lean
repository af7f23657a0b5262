/-
  The reference's Read tells the same records.
-/
import Derived.Test.YtkkbjkoikidjpaaWalRFrame
import Derived.Test.YtkkbjkoikidjpaaWalTwo
import Derived.Deep.CutBlock
import Derived.Deep.RegionHeld3
import Derived.Deep.DeepCutAuto
namespace Go.Proofs.Ytkkbjkoikidjpaa
open Go.RowKit

theorem ba_mid (a y c : ByteArray) : (a ++ (y ++ c)).extract a.size (a.size + y.size) = y := by
  apply ba_ext
  simp only [ByteArray.data_extract, ByteArray.data_append, Array.toList_extract, Array.toList_append, List.extract_eq_take_drop]
  rw [List.drop_left' (by simp), Nat.add_sub_cancel_left, List.take_left' (by simp)]
/-- A text's first two bytes, as a number. -/
def lenOf (t : ByteArray) : Nat := at0 t 0 * 256 + at0 t 1
theorem frame_mid {y : ByteArray} (h : RecOk y) (r : ByteArray) : (wFrame y ++ r).extract 2 (2 + y.size) = y := by
  have e : wFrame y ++ r = strOfNums [(y.size : Int) / 256 % 256, (y.size : Int) % 256] ++ (y ++ ((sTag walW y).extract 0 8 ++ r)) := by
    rw [wFrame_ok h, blobB]
    simp only [ByteArray.append_assoc]
  rw [e]
  have := ba_mid (strOfNums [(y.size : Int) / 256 % 256, (y.size : Int) % 256]) y ((sTag walW y).extract 0 8 ++ r)
  rwa [strOfNums_size] at this
theorem split_at {t : ByteArray} {n : Nat} (_h : n ≤ t.size) : t = t.extract 0 n ++ t.extract n t.size := by
  apply ba_ext
  have e : t.data.toList.length = t.size := by simp
  simp only [ByteArray.data_extract, ByteArray.data_append, Array.toList_extract, Array.toList_append, List.extract_eq_take_drop, List.drop_zero, Nat.sub_zero]
  rw [← e, List.take_of_length_le (l := List.drop n t.data.toList) (by simp), List.take_append_drop]
/-- What a first record asks. -/
theorem wFirst_asks {t : ByteArray} (hne : ¬ (wFirst t).size = 0) : RecOk (wFirst t) ∧ lenOf t = (wFirst t).size ∧ (wFirst t).size + 10 ≤ t.size ∧ t.extract 2 (2 + lenOf t) = wFirst t ∧ wFrame (wFirst t) = t.extract 0 (lenOf t + 10) := by
  obtain ⟨h1, h2, h3⟩ := wFirst_spec t hne
  generalize wFirst t = y at *
  have hy : RecOk y := (recOk_iff y).2 (by omega)
  have hys := wFrame_size hy
  have e := split_at h2
  rw [h3] at e
  have hl := frame_len hy (t.extract (wFrame y).size t.size)
  have hm := frame_mid hy (t.extract (wFrame y).size t.size)
  rw [← e] at hl hm
  have hl' : lenOf t = y.size := hl
  exact ⟨hy, hl', by omega, by rw [hl']; exact hm, by rw [hl', ← hys]; exact h3.symm⟩
theorem wFirst_is {t : ByteArray} (h1 : 1 ≤ lenOf t) (h2 : lenOf t ≤ 4096) (h3 : lenOf t + 10 ≤ t.size) (h4 : wFrame (t.extract 2 (2 + lenOf t)) = t.extract 0 (lenOf t + 10)) : wFirst t = t.extract 2 (2 + lenOf t) := by
  have hx : (t.extract 2 (2 + lenOf t)).size = lenOf t := by rw [ByteArray.size_extract]; omega
  have e := split_at h3
  rw [← h4] at e
  generalize t.extract (lenOf t + 10) t.size = r at e
  generalize t.extract 2 (2 + lenOf t) = x at *
  rw [e]
  exact wFirst_app ⟨by omega, by omega⟩ r
theorem at0_from {s : ByteArray} {a i : Nat} (h : a + i < s.size) : at0 (s.extract a s.size) i = at0 s (a + i) := by
  have e : (s.extract a s.size).size = s.size - a := by rw [ByteArray.size_extract]; omega
  unfold at0
  simp only [ByteArray.data_extract, Array.toList_extract, List.getD_eq_getElem?_getD, List.extract_eq_take_drop]
  rw [List.getElem?_take_of_lt (by omega), List.getElem?_drop]

/-- The reference's loop. -/
def RdRel (w0 : World) (s : ByteArray) (v4 v5 : Value) (wr : World) : Prop :=
  ∃ (l : List ByteArray) (a : Nat), v5 = .int .i64 a ∧ a ≤ s.size ∧ wRead s = l ++ wRead (s.extract a s.size) ∧ a = framesSize l ∧ l.length ≤ a ∧ StrRow wr w0.heap.size v4 l ∧ Keeps [] w0 wr

set_option maxRecDepth 100000 in
set_option maxHeartbeats 8000000 in
theorem rread_c {w : World} (s : ByteArray) (hs : s.size ≤ 16777216) :
    Calls Try.prog 32 #[.string s] w fun e w' => ∃ v, e = .returned (.tuple #[v, .int .i64 (framesSize (wRead s))]) ∧ StrRow w' w.heap.size v (wRead s) ∧ Keeps [] w w' := by
  have FC := fun w x h => rframe_c (w := w) x h
  have own0 : StrRow (w.alloc (.cells #[] 9)) w.heap.size (.slice (some ⟨w.heap.size, 0, none⟩) 0 0) [] := World.ownsRow_made _ _ _ (Nat.le_refl _) (by decide) rfl
  go_enter Try.func32, Try.ntmps32
  go_wp2_with fail
  go_loopw [4, 5] (fun v4 v5 wr => RdRel w s v4 v5 wr) (fun _ v5 _ => s.size - (intOf v5).toNat)
  case atStart => exact ⟨[], 0, rfl, Nat.zero_le _, by rw [show s.extract 0 s.size = s from by apply ba_ext; simp]; rfl, rfl, Nat.le_refl _, own0, (Keeps.refl _ _).alloc _⟩
  case round =>
    clear own0
    obtain ⟨l, a, rfl, ha, hrd, hfs, hll, hrow, K⟩ := hrel
    obtain ⟨t, ht⟩ : ∃ t, t = s.extract a s.size := ⟨_, rfl⟩
    have hts : t.size = s.size - a := by rw [ht, ByteArray.size_extract]; omega
    obtain ⟨a4, c4, rfl⟩ := row_len hrow.rowOf
    have HE := Go.Lib.hid (fun h => wRead_end (s := s) (l := l) (a := a) hrd h)
    have HS := Go.Lib.hid (fun h => wRead_step (s := s) (l := l) (a := a) hrd ha h)
    rw [← ht] at HE HS
    have HFS := Go.Lib.hid hfs
    clear hrd hfs
    by_cases h2 : 2 ≤ s.size - a
    · have h2' : (2 : Int) ≤ (s.size : Int) - (a : Int) := by omega
      obtain ⟨a1, ha1⟩ : ∃ a1, a1 = a + 1 := ⟨_, rfl⟩
      have e0 := at0_from (s := s) (a := a) (i := 0) (by omega)
      have e1 := at0_from (s := s) (a := a) (i := 1) (by omega)
      rw [← ht, Nat.add_zero] at e0
      rw [← ht, ← ha1] at e1
      have z0 : a < s.size := by omega
      have z1 : a1 < s.size := by omega
      have eb0 := at0_of s a z0
      have eb1 := at0_of s a1 z1
      have hl0 := at0_lt t 0
      have hl1 := at0_lt t 1
      have HN : Hid (lenOf t = at0 t 0 * 256 + at0 t 1) := rfl
      have hn65 : lenOf t ≤ 65535 := by unfold lenOf; omega
      rw [e0, eb0] at HN hl0
      rw [e1, eb1] at HN hl1
      have z1' : (a1 : Int) < (s.size : Int) := by omega
      have w1 : (a : Int) + 1 = (a1 : Int) := by omega
      have w1' : IntKind.i64.wrap (a1 : Int) = (a1 : Int) := by rw [IntKind.wrap_i64]; omega
      have HASK := Go.Lib.hid (fun h => wFirst_asks (t := t) h)
      have HIS := Go.Lib.hid (fun h1 h2 h3 h4 => wFirst_is (t := t) h1 h2 h3 h4)
      have HEX : Hid (∀ j k, a + k ≤ s.size → t.extract j k = s.extract (a + j) (a + k)) := by
        intro j k h
        rw [ht]; exact ba_ex_ex s a j k s.size h
      have HT := Go.Lib.hid ht
      clear e0 e1 eb0 eb1 ht ha1
      generalize lenOf t = n at *
      go_upto_region 3 with fail
      go_cut [6] (fun v6 wx => v6 = .int .i64 n ∧ Keeps [] wr wx)
      case first =>
        go_region
        go_wp2_with fail
        go_meet
        case rel => exact ⟨by rw [HN.out]; simp, (Keeps.refl _ _).drew⟩
      case rest =>
        obtain ⟨rfl, k1⟩ := hcut
        have hrow1 := hrow.keep k1 (fun _ _ => by simp)
        have K1 := K.trans k1
        clear hrow K k1 w1 w1' z1 z1' hl0 hl1 HN
        have hbad : ¬ (1 ≤ n ∧ n ≤ 4096 ∧ n + 10 ≤ t.size) → Hid (wRead s = l) := fun h => HE.out (Decidable.byContradiction fun k => h (by
          obtain ⟨h1, h2, h3, _⟩ := HASK.out k
          have h4 := h1.1
          have h5 := h1.2
          omega))
        by_cases n1 : 1 ≤ n
        · by_cases n2 : n ≤ 4096
          · by_cases n3 : n + 10 ≤ s.size - a
            · have n3' : (n : Int) + 10 ≤ (s.size : Int) - (a : Int) := by omega
              obtain ⟨a2, ha2⟩ : ∃ a2, a2 = a + 2 := ⟨_, rfl⟩
              obtain ⟨a3, ha3⟩ : ∃ a3, a3 = a2 + n := ⟨_, rfl⟩
              obtain ⟨a4', ha4⟩ : ∃ a4, a4 = a + n + 10 := ⟨_, rfl⟩
              have w2 : (a : Int) + 2 = (a2 : Int) := by omega
              have w3 : (a2 : Int) + (n : Int) = (a3 : Int) := by omega
              have w4 : (a : Int) + (n : Int) + 10 = (a4' : Int) := by omega
              have l3 : (a3 : Int) ≤ (s.size : Int) := by omega
              have l23 : (a2 : Int) ≤ (a3 : Int) := by omega
              have l4 : (a4' : Int) ≤ (s.size : Int) := by omega
              have l04 : (a : Int) ≤ (a4' : Int) := by omega
              have hxs : (s.extract a2 a3).size = n := by rw [ByteArray.size_extract]; omega
              have X1 : t.extract 2 (2 + n) = s.extract a2 a3 := by rw [HEX.out 2 (2 + n) (by omega), ha2, ha3, ha2, Nat.add_assoc]
              have X2 : t.extract 0 (n + 10) = s.extract a a4' := by rw [HEX.out 0 (n + 10) (by omega), ha4, Nat.add_zero, Nat.add_assoc]
              have FX := fun w => FC w (s.extract a2 a3) (by rw [hxs]; omega)
              have HX := Go.Lib.hid (And.intro X1 X2)
              have HA := Go.Lib.hid (And.intro ha2 (And.intro ha3 ha4))
              have HXS := Go.Lib.hid hxs
              clear X1 X2 ha2 ha3 ha4 hxs hbad
              go_upto_region 7 with fail
              refine wp_region_held_drew (S := (Keeps [] wc)) (by kernel_rfl) ((Keeps.refl _ _).drew) (fun hHeld => ?_)
              generalize wc.drew = wd at *
              have ww4 : IntKind.i64.wrap (IntKind.i64.wrap ((a : Int) + (n : Int)) + 10) = (a4' : Int) := by
                have u1 : IntKind.i64.wrap ((a : Int) + (n : Int)) = (a : Int) + n := by rw [IntKind.wrap_i64]; omega
                rw [u1, w4, IntKind.wrap_i64]
                omega
              refine wpAnyH_take (i := 0) (oi := Oper.mk _ _ _ _ _ _) (v := ?_) rfl (by kernel_rfl) (by kernel_rfl) (by kernel_rfl) (fun _ _ _ h => h) (Or.inl ⟨by rfl, ?_⟩) hHeld ?_
              rotate_left
              · (intro w hSw; (try dsimp only at hSw); (first | (go_simp; done) | (go_simp; with_reducible rfl)))
              try simp only [Act.put, List.setIfInBounds_toArray, List.set_cons_zero, List.set_cons_succ]
              refine wpAnyH_take (i := 2) (oi := Oper.mk _ _ _ _ _ _) (v := ?_) rfl (by kernel_rfl) (by kernel_rfl) (by kernel_rfl) (fun _ _ _ h => h) (Or.inl ⟨by rfl, ?_⟩) hHeld ?_
              rotate_left
              · (intro w hSw; (try dsimp only at hSw); (first | (go_simp; done) | (go_simp; with_reducible rfl)))
              try simp only [Act.put, List.setIfInBounds_toArray, List.set_cons_zero, List.set_cons_succ]
              refine wpAnyH_take (i := 3) (oi := Oper.mk _ _ _ _ _ _) (v := ?_) rfl (by kernel_rfl) (by kernel_rfl) (by kernel_rfl) (fun _ _ _ h => h) (Or.inl ⟨by rfl, ?_⟩) hHeld ?_
              rotate_left
              · (intro w hSw; (try dsimp only at hSw); (first | (go_simp; done) | (go_simp; with_reducible rfl)))
              try simp only [Act.put, List.setIfInBounds_toArray, List.set_cons_zero, List.set_cons_succ]
              refine wpAnyH_take (i := 4) (oi := Oper.mk _ _ _ _ _ _) (v := ?_) rfl (by kernel_rfl) (by kernel_rfl) (by kernel_rfl) (fun _ _ _ h => h) (Or.inl ⟨by rfl, ?_⟩) hHeld ?_
              rotate_left
              · (intro w hSw; (try dsimp only at hSw); (first | (go_simp; done) | (go_simp; with_reducible rfl)))
              try simp only [Act.put, List.setIfInBounds_toArray, List.set_cons_zero, List.set_cons_succ]
              refine wpAnyH_take (i := 5) (oi := Oper.mk _ _ _ _ _ _) (v := ?_) rfl (by kernel_rfl) (by kernel_rfl) (by kernel_rfl) (fun _ _ _ h => h) (Or.inl ⟨by rfl, ?_⟩) hHeld ?_
              rotate_left
              · (intro w hSw; (try dsimp only at hSw); (first | (go_simp; done) | (go_simp; with_reducible rfl)))
              try simp only [Act.put, List.setIfInBounds_toArray, List.set_cons_zero, List.set_cons_succ]
              refine wpAnyH_take (i := 6) (oi := Oper.mk _ _ _ _ _ _) (v := ?_) rfl (by kernel_rfl) (by kernel_rfl) (by kernel_rfl) (fun _ _ _ h => h) (Or.inl ⟨by rfl, ?_⟩) hHeld ?_
              rotate_left
              · (intro w hSw; (try dsimp only at hSw); (first | (go_simp; done) | (go_simp; with_reducible rfl)))
              try simp only [Act.put, List.setIfInBounds_toArray, List.set_cons_zero, List.set_cons_succ]
              refine wpAnyH_take (i := 7) (oi := Oper.mk _ _ _ _ _ _) (v := ?_) rfl (by kernel_rfl) (by kernel_rfl) (by kernel_rfl) (fun _ _ _ h => h) (Or.inl ⟨by rfl, ?_⟩) hHeld ?_
              rotate_left
              · (intro w hSw; (try dsimp only at hSw); (first | (go_simp; done) | (go_simp; with_reducible rfl)))
              try simp only [Act.put, List.setIfInBounds_toArray, List.set_cons_zero, List.set_cons_succ]
              refine wpAnyH_take (i := 8) (oi := Oper.mk _ _ _ _ _ _) (v := ?_) rfl (by kernel_rfl) (by kernel_rfl) (by kernel_rfl) (fun _ _ _ h => h) (Or.inl ⟨by rfl, ?_⟩) hHeld ?_
              rotate_left
              · (intro w hSw; (try dsimp only at hSw); (first | (go_simp; done) | (go_simp; with_reducible rfl)))
              try simp only [Act.put, List.setIfInBounds_toArray, List.set_cons_zero, List.set_cons_succ]
              refine wpAnyH_ready (rs := [1]) (by kernel_rfl) (by simp) ?_
              refine AllReadyH.cons (o := Oper.mk _ _ _ _ _ _) rfl (fun K hK => ?_) AllReadyH.nil
              (go_simp; refine (FX _).mono ?_; rintro e w5 ⟨rfl, k5⟩)
              refine hK.out _ _ (hHeld.trans k5) (fun hNew => ?_)
              clear hHeld hK
              have hHeld := hNew
              clear hNew
              try simp only [Act.put, List.setIfInBounds_toArray, List.set_cons_zero, List.set_cons_succ]
              refine wpAnyH_take (i := 9) (oi := Oper.mk _ _ _ _ _ _) (v := ?_) rfl (by kernel_rfl) (by kernel_rfl) (by kernel_rfl) (fun _ _ _ h => h) (Or.inl ⟨by rfl, ?_⟩) hHeld ?_
              rotate_left
              · (intro w hSw; (try dsimp only at hSw); (first | (go_simp; done) | (go_simp; with_reducible rfl)))
              try simp only [Act.put, List.setIfInBounds_toArray, List.set_cons_zero, List.set_cons_succ]
              refine wpAnyH_done (by kernel_rfl) ?_ _
              have K5 := K1.trans hHeld
              have hrow5 := hrow1.keep hHeld (fun _ _ => by simp)
              clear hHeld K1 hrow1 k5
              by_cases hf : wFrame (s.extract a2 a3) = s.extract a a4'
              · have hb := str_same hf
                have hb2 : (!((wFrame (s.extract a2 a3)).toList == (s.extract a a4').toList)) = false := by rw [hb]; rfl
                rw [hb2]
                clear hb hb2
                have HF : Hid (wFirst t = s.extract a2 a3) := by
                  show _ = _
                  rw [HIS.out n1 n2 (by omega) (by rw [HX.out.1, HX.out.2]; exact hf), HX.out.1]
                have hok : RecOk (s.extract a2 a3) := ⟨by rw [HXS.out]; exact n1, by rw [HXS.out]; exact n2⟩
                have hfz : (wFrame (s.extract a2 a3)).size = n + 10 := by rw [wFrame_size hok, HXS.out]
                have HST : Hid (wRead s = (l ++ [s.extract a2 a3]) ++ wRead (s.extract a4' s.size)) := by
                  have h := HS.out (by rw [HF.out]; have := hok.1; omega)
                  rw [HF.out, hfz, show a + (n + 10) = a4' from by have := HA.out.2.2; omega] at h
                  exact h
                have HFZ : Hid (a4' = framesSize (l ++ [s.extract a2 a3])) := by
                  show _ = _
                  rw [framesSize_snoc, hfz]
                  have h1 := HFS.out
                  have h2 := HA.out.2.2
                  omega
                have hxz : (s.extract a2 a3).size ≤ 9223372036854775807 := by rw [HXS.out]; omega
                have hal : l.length ≤ s.size := by omega
                have hrowA : StrRow (w5.alloc (.cells #[.string (s.extract a2 a3)] 9)) w.heap.size _ l := hrow5.keep ((Keeps.refl [] w5).alloc _) (fun _ _ => by simp)
                have hv4 := World.ownsRow.lt hrow5
                have hsz5 := K5.size
                clear hf hfz hok HF HASK HIS HEX HE HS HFS HX FX FC hxz hrow5
                generalize wFrame (s.extract a2 a3) = fx at *
                generalize s.extract a2 a3 = x at *
                go_wp2_with (at_builtin; refine wpList_append_str rfl (.tmp 62) (.tmp 64) rfl w.heap.size _ l rfl hrowA ⟨w5.heap.size, 0, none⟩ x rfl ?c1 ?c2 ?c3 ?_)
                case c1 => simp
                case c2 => omega
                case c3 => simp; omega
                intro g cap6 w6 hg hw hor6
                have K6 : Keeps [] w w6 := ((K5.alloc _).grown hw (fun q hq => by have := hv4 q hq; omega))
                clear hv4 hrowA hw hor6 K5
                go_wp2_with fail
                go_roundw
                case rel =>
                  obtain ⟨ha2, ha3, ha4⟩ := HA.out
                  exact ⟨l ++ [x], a4', rfl, by omega, HST.out, HFZ.out, by simp; omega, by simpa using hg, K6⟩
                case measure =>
                  obtain ⟨ha2, ha3, ha4⟩ := HA.out
                  simp [intOf]; omega
              · have hb := str_other hf
                have hb2 : (!((wFrame (s.extract a2 a3)).toList == (s.extract a a4').toList)) = true := by rw [hb]; rfl
                rw [hb2]
                clear hb hb2
                have HW : Hid (wRead s = l) := HE.out (Decidable.byContradiction fun k => hf (by
                  obtain ⟨h1, h2, h3, h4, h5⟩ := HASK.out k
                  rw [HX.out.1] at h4
                  rw [HX.out.2, ← h4] at h5
                  exact h5))
                clear hf HASK HIS HEX HE HS
                generalize wFrame (s.extract a2 a3) = fx at *
                go_wp2_with fail
                go_ret2
                exact ⟨.slice a4 l.length c4, by rw [HW.out, ← HFS.out]; rfl, by rw [HW.out]; exact hrow5, K5⟩
            · have n3' : (s.size : Int) - (a : Int) < (n : Int) + 10 := by omega
              have hb := hbad (by omega)
              clear hbad HASK HIS HEX HE HS
              go_wp2_with fail
              go_ret2
              exact ⟨.slice a4 l.length c4, by rw [hb.out, ← HFS.out]; rfl, by rw [hb.out]; exact hrow1, K1⟩
          · have n2' : (4096 : Int) < n := by omega
            have hb := hbad (by omega)
            clear hbad HASK HIS HEX HE HS
            go_wp2_with fail
            go_ret2
            exact ⟨.slice a4 l.length c4, by rw [hb.out, ← HFS.out]; rfl, by rw [hb.out]; exact hrow1, K1⟩
        · have hb := hbad (by omega)
          have n0 : (n : Int) < 1 := by omega
          clear hbad HASK HIS HEX HE HS
          go_wp2_with fail
          go_ret2
          exact ⟨.slice a4 l.length c4, by rw [hb.out, ← HFS.out]; rfl, by rw [hb.out]; exact hrow1, K1⟩
    · have h2' : (s.size : Int) - (a : Int) < 2 := by omega
      have hb : Hid (wRead s = l) := HE.out (Decidable.byContradiction fun k => by
        obtain ⟨h1, h2, h3, _⟩ := wFirst_asks (t := t) k
        omega)
      clear HE HS
      go_wp2_with fail
      go_ret2
      exact ⟨.slice a4 l.length c4, by rw [hb.out, ← HFS.out]; rfl, by rw [hb.out]; exact hrow, K⟩
end Go.Proofs.Ytkkbjkoikidjpaa
