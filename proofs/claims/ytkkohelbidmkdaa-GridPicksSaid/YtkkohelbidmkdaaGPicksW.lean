/-
  The law GridPicks, walked.
-/
import Derived.Test.YtkkohelbidmkdaaGPicked
import Derived.Deep.DeepCutAuto
namespace Go.Proofs.Ytkkohelbidmkdaa
set_option linter.unusedVariables false
set_option linter.unusedSimpArgs false
open Go Go.RowKit

theorem ints_snoc (l : List Nat) (x : Nat) : ints l ++ [(x : Int)] = ints (l ++ [x]) := by simp [ints]

theorem own_one (w : World) (y : Int) : Own (w.alloc (.cells #[.int .i64 y] 3)) w.heap.size (.slice (some ⟨w.heap.size, 0, none⟩) 1 1) [y] :=
  ⟨by simp, .inr ⟨w.heap.size, 1, #[.int .i64 y], rfl, Nat.le_refl _, World.alloc_heap_new w _, Nat.le_refl _, by simp only [maxLen]; omega, rfl, rfl⟩⟩

set_option maxRecDepth 100000 in
set_option maxHeartbeats 6400000 in
theorem gridPicks_calls (d : Value) (U : Option Addr) (cu : Nat) (us : List Int) (T : Option Addr) (ct : Nat) (ts : List Int) (n : Int) (w : World) (hd : DraftV w d) (hu : Cs w .u8 U us) (lu : us.length ≤ cu) (mu : cu ≤ 9223372036854775807) (nu : U = none → cu = 0) (bu : ∀ x ∈ us, 0 ≤ x ∧ x ≤ 255)
    (ht : Cs w .u8 T ts) (lt : ts.length ≤ ct) (mt : ct ≤ 9223372036854775807) (nt : T = none → ct = 0) (bt : ∀ x ∈ ts, 0 ≤ x ∧ x ≤ 255) (hn0 : 0 ≤ n) (hn1 : n ≤ 65535) :
    Calls Try.prog 9 #[d, .slice U us.length cu, .slice T ts.length ct, .int .u16 n] w fun r w' => r = .returned (.bool true) ∧ Below w.heap.size w w' := by
  have HD := Lib.hid hd
  obtain ⟨S, cs, ss, du, V, cv, vs, sm, rfl, -⟩ := hd.is
  obtain ⟨nn, rfl⟩ := Int.eq_ofNat_of_zero_le hn0
  have HU := Lib.hid (And.intro hu bu)
  have HT := Lib.hid (And.intro ht bt)
  obtain ⟨m1, hm1⟩ : ∃ m, min us.length 4 = m := ⟨_, rfl⟩
  have hmu1 : (if (4 : Int) < (us.length : Int) then (4 : Int) else (us.length : Int)) = (m1 : Int) := by omega
  have hm1c : m1 ≤ cu := by omega
  have hm14 : m1 ≤ 4 := by omega
  have hm1l : m1 ≤ us.length := by omega
  obtain ⟨m2, hm2⟩ : ∃ m, min ts.length 4 = m := ⟨_, rfl⟩
  have HM2 := Lib.hid (show (if (4 : Int) < (ts.length : Int) then (4 : Int) else (ts.length : Int)) = (m2 : Int) ∧ m2 ≤ ct ∧ m2 ≤ 4 ∧ m2 ≤ ts.length from by omega)
  have HN := Lib.hid nu
  have HNT := Lib.hid nt
  clear hd hn0 hu bu ht bt hm1 hm2 nu nt
  go_enter Try.func9, Try.ntmps9
  go_wp2_with fail
  refine calls_named ?_
  intro w1 hw1
  have p1 : Blk w1 w.heap.size [.slice S ss.length cs, .int .u8 du, .slice V vs.length cv, .bool sm] 28 := by rw [hw1]; exact Blk.new _ _ _
  have hb1' : Below w.heap.size w w1 := by rw [hw1]; repeat (first | exact below_alloc _ | refine below_trans ?_ (below_alloc _))
  clear hw1
  refine (wakes_calls w1).mono ?_
  rintro r w2 ⟨rfl, hb2⟩
  replace p1 := p1.kept hb2
  have hb12 := below_trans hb1' hb2
  have c3 := p1.cell (i := 0) rfl
  have c4 := p1.cell (i := 1) rfl
  have c5 := p1.cell (i := 2) rfl
  have c6 := p1.cell (i := 3) rfl
  have HB := Lib.hid hb12
  clear p1 hb1' hb2 hb12
  go_wp2_with fail
  refine (draft_calls (HD.out.kept HB.out)).mono ?_
  rintro r w3 ⟨A, c, sN, on, Ad, kd, data, rfl, hdr⟩
  have HW := Lib.hid hdr
  clear c3 c4 c5 c6 hdr
  go_upto_region 4 with fail
  refine wp_named ?_
  intro w4 hw4
  have bg : Blk w4 w3.heap.size [.slice A sN.length c, .int .i64 on, .slice Ad data.length kd] 24 := by rw [hw4]; exact Blk.at rfl
  have hb4 : Below w3.heap.size w3 w4 := by rw [hw4]; repeat (first | exact below_alloc _ | refine below_trans ?_ (below_alloc _))
  have hpr : pr sN ≤ 64 := pr_small HW.out.sizes HW.out.len3
  have ho3 := HW.out.out3
  have ho1 := HW.out.out1
  have HG := Lib.hid (And.intro bg (And.intro ((HW.out.grd.lower (b0 := 0) (Nat.zero_le _)).kept hb4) (below_trans HB.out (below_trans HW.out.below hb4))))
  clear hw4 bg hb4 HW HB HD
  have hon0 : ¬ on = 0 := by omega
  go_wp2_with fail
  go_loopw [10, 52] (fun v j wq => ∃ jn A' ka fs, jn ≤ m1 ∧ j = .int .i64 (jn : Nat) ∧ v = .slice A' jn ka ∧ (∀ x ∈ (fs : List Nat), x < on) ∧ Own wq w4.heap.size (.slice A' jn ka) (ints fs) ∧ Below w4.heap.size w4 wq) (fun _ j _ => m1 - (intOf j).toNat)
  case atStart => exact ⟨0, none, 0, [], Nat.zero_le _, rfl, rfl, (fun x hx => by cases hx), Own.nil _ _, Below.refl _ _⟩
  case round =>
    obtain ⟨j, A', ka, fs, hj, rfl, rfl, hfs, how, hbq⟩ := hrel
    by_cases hlj : j < m1
    · obtain ⟨y, bs, os, hy, rfl, hcy⟩ := HU.out.1.at (i := j) (by omega)
      have hyb := HU.out.2 y (List.mem_of_getElem? hy)
      obtain ⟨yn, rfl⟩ := Int.eq_ofNat_of_zero_le hyb.1
      replace hcy := Ytkkohelbidmkdaa.kept (below_trans HG.out.2.2 hbq) hcy
      have hwy : IntKind.i64.wrap (yn : Int) = (yn : Int) := by rw [IntWalk.i64_left]; exact wrap64_id (by omega) (by omega)
      obtain ⟨z, hz⟩ : ∃ z, yn % on = z := ⟨_, rfl⟩
      have hzo : z < on := by rw [← hz]; exact Nat.mod_lt _ (by omega)
      have hty : Int.tmod (yn : Int) (on : Int) = (z : Int) := by rw [Int.tmod_eq_emod_of_nonneg (by omega), ← hz]; simp
      have c1 := (HG.out.1.kept hbq).cell (i := 1) rfl
      have HA := Lib.hid (And.intro how hbq)
      have HF := Lib.hid (And.intro hfs hzo)
      clear hy hyb hz how hbq hfs hzo
      go_upto_region 9 with (at_builtin; (refine push_one rfl _ _ rfl A' j ka (ints fs) z rfl rfl HA.out (by omega) ?_); intro A'' ka'' w5 ho hb; have HI5 := Lib.hid (And.intro ho hb); clear ho hb)
      go_wp2
      go_roundw
      case rel => exact ⟨j + 1, A'', ka'', fs ++ [z], by omega, by go_num, rfl, (fun x hx => by rcases List.mem_append.1 hx with h | h; exact HF.out.1 x h; rw [List.mem_singleton.1 h]; exact HF.out.2), by rw [← ints_snoc]; exact HI5.out.1, HI5.out.2⟩
      case measure => simp [intOf]; omega
    · have hjm : m1 = j := by omega
      subst hjm
      have HA := Lib.hid (And.intro how (And.intro hfs (below_trans HG.out.2.2 hbq)))
      have HG1 := Lib.hid (And.intro (HG.out.1.kept hbq) (And.intro (HG.out.2.1.kept hbq) (below_trans HG.out.2.2 hbq)))
      clear how hfs hbq HG
      go_upto_if 67 with fail
      go_cut [10] from 68 to 68 (fun v wq => ∃ nf A' ka fs, 1 ≤ nf ∧ nf ≤ 4 ∧ v = .slice A' nf ka ∧ (∀ x ∈ (fs : List Nat), x < on) ∧ Own wq 0 (.slice A' nf ka) (ints fs) ∧ Below wr.heap.size wr wq)
      case first =>
        by_cases hj0 : m1 = 0
        · subst hj0
          go_wp2_with fail
          go_meet
          case rel => exact ⟨1, _, _, [0], Nat.le_refl _, by omega, rfl, (fun x hx => by rw [List.mem_singleton.1 hx]; omega), (own_one wr 0).lower (Nat.zero_le _), below_alloc _⟩
        · go_wp2_with fail
          go_meet
          case rel => exact ⟨m1, A', ka, fs, by omega, hm14, rfl, HA.out.2.1, HA.out.1.lower (Nat.zero_le _), Below.refl _ _⟩
      case rest =>
        clear hmu1 hm1c hm14 hm1l hj hlj HN HU lu mu
        obtain ⟨nf, F1, kf, fN, hnf1, hnf4, rfl, hfs, hof, hbc⟩ := hcut
        have hfl : fN.length = nf := by have := hof.length.1; rwa [ints_length] at this
        have HF := Lib.hid (And.intro hof (And.intro hfs hfl))
        have HG2 := Lib.hid (And.intro (HG1.out.1.kept hbc) (And.intro (HG1.out.2.1.kept hbc) (below_trans HG1.out.2.2 hbc)))
        obtain ⟨hmt, hm2c, hm24, hm2l⟩ := HM2.out
        have hnf0 : ¬ nf = 0 := by omega
        clear hfs hof hbc hfl HA HG1
        go_wp2_with fail
        go_loopw [11, 75] (fun v j wq => ∃ jn A' ka ss, jn ≤ m2 ∧ j = .int .i64 (jn : Nat) ∧ v = .slice A' jn ka ∧ (∀ x ∈ (ss : List Nat), x < nf) ∧ Own wq wc.heap.size (.slice A' jn ka) (ints ss) ∧ Below wc.heap.size wc wq) (fun _ j _ => m2 - (intOf j).toNat)
        case atStart => exact ⟨0, none, 0, [], Nat.zero_le _, rfl, rfl, (fun x hx => by cases hx), Own.nil _ _, Below.refl _ _⟩
        case round =>
          obtain ⟨j, A', ka, gs, hj, rfl, rfl, hgs, how, hbq⟩ := hrel
          by_cases hlj : j < m2
          · obtain ⟨y, bs, os, hy, rfl, hcy⟩ := HT.out.1.at (i := j) (by omega)
            have hyb := HT.out.2 y (List.mem_of_getElem? hy)
            obtain ⟨yn, rfl⟩ := Int.eq_ofNat_of_zero_le hyb.1
            replace hcy := Ytkkohelbidmkdaa.kept (below_trans HG2.out.2.2 hbq) hcy
            have hwy : IntKind.i64.wrap (yn : Int) = (yn : Int) := by rw [IntWalk.i64_left]; exact wrap64_id (by omega) (by omega)
            obtain ⟨z, hz⟩ : ∃ z, yn % nf = z := ⟨_, rfl⟩
            have hzo : z < nf := by rw [← hz]; exact Nat.mod_lt _ (by omega)
            have hty : Int.tmod (yn : Int) (nf : Int) = (z : Int) := by rw [Int.tmod_eq_emod_of_nonneg (by omega), ← hz]; simp
            have HA := Lib.hid (And.intro how hbq)
            have HFF := Lib.hid (And.intro hgs hzo)
            clear hy hyb hz how hbq hgs hzo
            go_upto_region 16 with (at_builtin; (refine push_one rfl _ _ rfl A' j ka (ints gs) z rfl rfl HA.out (by omega) ?_); intro A'' ka'' w5 ho hb; have HI5 := Lib.hid (And.intro ho hb); clear ho hb)
            go_wp2
            go_roundw
            case rel => exact ⟨j + 1, A'', ka'', gs ++ [z], by omega, by go_num, rfl, (fun x hx => by rcases List.mem_append.1 hx with h | h; exact HFF.out.1 x h; rw [List.mem_singleton.1 h]; exact HFF.out.2), by rw [← ints_snoc]; exact HI5.out.1, HI5.out.2⟩
            case measure => simp [intOf]; omega
          · have hjm : m2 = j := by omega
            subst hjm
            have HA := Lib.hid (And.intro how hgs)
            have HG3 := Lib.hid (And.intro (HG2.out.1.kept hbq) (And.intro (HG2.out.2.1.kept hbq) (And.intro (below_trans HG2.out.2.2 hbq) (And.intro (HF.out.1.kept hbq) HF.out.2))))
            clear how hgs hbq HG2 HF
            go_upto_if 90 with fail
            go_cut [11] from 91 to 91 (fun v wq => ∃ ng A' ka fs, 1 ≤ ng ∧ ng ≤ 4 ∧ v = .slice A' ng ka ∧ (∀ x ∈ (fs : List Nat), x < nf) ∧ Own wq 0 (.slice A' ng ka) (ints fs) ∧ Below wr.heap.size wr wq)
            case first =>
              by_cases hj0 : m2 = 0
              · subst hj0
                go_wp2_with fail
                go_meet
                case rel => exact ⟨1, _, _, [0], Nat.le_refl _, by omega, rfl, (fun x hx => by rw [List.mem_singleton.1 hx]; omega), (own_one wr 0).lower (Nat.zero_le _), below_alloc _⟩
              · go_wp2_with fail
                go_meet
                case rel => exact ⟨m2, A', ka, gs, by omega, hm24, rfl, HA.out.2, HA.out.1.lower (Nat.zero_le _), Below.refl _ _⟩
            case rest =>
              clear hmt hm2c hm24 hm2l hj hlj HM2 HNT HT lt mt hnf0
              obtain ⟨ng, S1, ks, gN, hng1, hng4, rfl, hgs, hog, hbc⟩ := hcut
              have hgl : gN.length = ng := by have := hog.length.1; rwa [ints_length] at this
              have HS := Lib.hid (And.intro hog (And.intro hgs hgl))
              have HG4 := Lib.hid (And.intro (HG3.out.1.kept hbc) (And.intro (HG3.out.2.1.kept hbc) (And.intro (below_trans HG3.out.2.2.1 hbc) (And.intro (HG3.out.2.2.2.1.kept hbc) HG3.out.2.2.2.2))))
              clear hgs hog hbc hgl HA HG3
              go_wp2_with fail
              go_loopw [12, 94] (fun v j wq => ∃ jn A' ka, jn ≤ ng ∧ j = .int .i64 (jn : Nat) ∧ v = .slice A' jn ka ∧ Own wq wc.heap.size (.slice A' jn ka) (ints ((gN.take jn).map fun x => fN.getD x 0)) ∧ Below wc.heap.size wc wq) (fun _ j _ => ng - (intOf j).toNat)
              case atStart => exact ⟨0, none, 0, Nat.zero_le _, rfl, rfl, by simpa [ints] using Own.nil _ _, Below.refl _ _⟩
              case round =>
                obtain ⟨j, A', ka, hj, rfl, rfl, how, hbq⟩ := hrel
                by_cases hlj : j < ng
                · obtain ⟨gx, hgx⟩ : ∃ x, gN[j]? = some x := ⟨_, List.getElem?_eq_getElem (by have := HS.out.2.2; omega)⟩
                  have hgn := HS.out.2.1 gx (List.mem_of_getElem? hgx)
                  obtain ⟨y, bs, os, hy, rfl, hcy⟩ := HS.out.1.length.2.2.2.2.at (i := j) (by rw [ints_length]; have := HS.out.2.2; omega)
                  obtain ⟨y', hy', rfl⟩ := ints_at hy
                  have hyy : y' = gx := by rw [hgx] at hy'; exact (Option.some.inj hy').symm
                  subst hyy
                  obtain ⟨fx, hfx⟩ : ∃ x, fN[y']? = some x := ⟨_, List.getElem?_eq_getElem (by have := HG4.out.2.2.2.2.2; omega)⟩
                  obtain ⟨q, bf, of, hq, rfl, hcq⟩ := HG4.out.2.2.2.1.length.2.2.2.2.at (i := y') (by rw [ints_length]; have := HG4.out.2.2.2.2.2; omega)
                  obtain ⟨q', hq', rfl⟩ := ints_at hq
                  have hqq : q' = fx := by rw [hfx] at hq'; exact (Option.some.inj hq').symm
                  subst hqq
                  replace hcy := Ytkkohelbidmkdaa.kept hbq hcy
                  replace hcq := Ytkkohelbidmkdaa.kept hbq hcq
                  have hnx : ((gN.take j).map fun x => fN.getD x 0) ++ [q'] = (gN.take (j + 1)).map fun x => fN.getD x 0 := by
                    rw [take_at hgx, List.map_append]
                    simp [hfx]
                  have HA := Lib.hid (And.intro how hbq)
                  have HNX := Lib.hid hnx
                  clear hgx hy hy' hfx hq hq' how hbq hnx
                  go_upto_region 23 with (at_builtin; (refine push_one rfl _ _ rfl A' j ka (ints ((gN.take j).map fun x => fN.getD x 0)) q' rfl rfl HA.out (by omega) ?_); intro A'' ka'' w5 ho hb; rw [ints_snoc, HNX.out] at ho; have HI5 := Lib.hid (And.intro ho hb); clear ho hb)
                  go_wp2
                  go_roundw
                  case rel => exact ⟨j + 1, A'', ka'', by omega, by go_num, rfl, HI5.out.1, HI5.out.2⟩
                  case measure => simp [intOf]; omega
                · have hjm : ng = j := by omega
                  subst hjm
                  rw [List.take_of_length_le (by have := HS.out.2.2; omega)] at how
                  have HG5 := Lib.hid (And.intro (HG4.out.1.kept hbq) (And.intro (HG4.out.2.1.kept hbq) (And.intro (below_trans HG4.out.2.2.1 hbq) (And.intro (HG4.out.2.2.2.1.kept hbq) (And.intro HG4.out.2.2.2.2 (And.intro (HS.out.1.kept hbq) (And.intro HS.out.2 how)))))))
                  have c1 := HG5.out.1.cell (i := 1) rfl
                  clear how hbq HG4 HS hj hlj
                  go_wp2_with fail
                  go_loopw [13, 108] (fun v j wq => ∃ jn A' ka, jn ≤ on ∧ j = .int .i64 (jn : Nat) ∧ v = .slice A' jn ka ∧ Own wq wr.heap.size (.slice A' jn ka) (ints (List.range jn)) ∧ Below wr.heap.size wr wq) (fun _ j _ => on - (intOf j).toNat)
                  case atStart => exact ⟨0, none, 0, Nat.zero_le _, rfl, rfl, by simpa [ints] using Own.nil _ _, Below.refl _ _⟩
                  case round =>
                    obtain ⟨j, A4, k4, hj, rfl, rfl, how, hbq⟩ := hrel
                    by_cases hlj : j < on
                    · have HA := Lib.hid (And.intro how hbq)
                      clear how hbq
                      go_upto_region 28 with (at_builtin; (refine push_one rfl _ _ rfl A4 j k4 (ints (List.range j)) j rfl rfl HA.out (by omega) ?_); intro A'' ka'' w5 ho hb; rw [ints_snoc, ← List.range_succ] at ho; have HI5 := Lib.hid (And.intro ho hb); clear ho hb)
                      go_wp2
                      go_roundw
                      case rel => exact ⟨j + 1, A'', ka'', by omega, by go_num, rfl, HI5.out.1, HI5.out.2⟩
                      case measure => simp [intOf]; omega
                    · have hjm : on = j := by omega
                      subst hjm
                      have HG := Lib.hid (And.intro (And.intro (HG5.out.1.kept hbq) (And.intro (HG5.out.2.1.kept hbq) (below_trans HG5.out.2.2.1 hbq))) (And.intro (And.intro (HG5.out.2.2.2.1.kept hbq) HG5.out.2.2.2.2.1) (And.intro (And.intro (HG5.out.2.2.2.2.2.1.kept hbq) HG5.out.2.2.2.2.2.2.1) (And.intro (HG5.out.2.2.2.2.2.2.2.kept hbq) how))))
                      have c0 := HG.out.1.1.cell (i := 0) rfl
                      have c1 := HG.out.1.1.cell (i := 1) rfl
                      have c2 := HG.out.1.1.cell (i := 2) rfl
                      have hpo : pr sN * on ≤ 4096 := Nat.le_trans (Nat.mul_le_mul hpr ho3) (by omega)
                      have hpf : pr sN * nf ≤ 4096 := Nat.le_trans (Nat.mul_le_mul hpr hnf4) (by omega)
                      have hpg : pr sN * ng ≤ 4096 := Nat.le_trans (Nat.mul_le_mul hpr hng4) (by omega)
                      have HPP := Lib.hid (And.intro hpo (And.intro hpf hpg))
                      clear how hbq HG5 hj hlj hpo hpf hpg
                      go_wp2_with fail
                      have hpk := pick_grd HG.out.1.2.1 (ci := k4) HG.out.2.2.2.2.length.2.2.2.2 List.length_range ho1 (by omega) (fun c hc => List.mem_range.1 hc) HPP.out.1
                      rw [pickV_all (data_nat HG.out.1.2.1.valid)] at hpk
                      refine hpk.mono ?_
                      rintro r w5 ⟨A5, k5, B5, e5, rfl, g5, hb5⟩
                      clear hpk c0 c1 c2
                      go_upto_region 30 with fail
                      refine wp_named ?_
                      intro w6 hw6
                      have b6 : Blk w6 w5.heap.size [.slice A5 sN.length k5, .int .i64 on, .slice B5 data.length e5] 24 := by rw [hw6]; exact Blk.at rfl
                      have hb6 : Below w5.heap.size w5 w6 := by rw [hw6]; repeat (first | exact below_alloc _ | refine below_trans ?_ (below_alloc _))
                      have hb56 := below_trans hb5 hb6
                      have HG6 := Lib.hid (And.intro (And.intro (HG.out.1.1.kept hb56) (And.intro (HG.out.1.2.1.kept hb56) (below_trans HG.out.1.2.2 hb56))) (And.intro (And.intro (HG.out.2.1.1.kept hb56) HG.out.2.1.2) (And.intro (And.intro (HG.out.2.2.1.1.kept hb56) HG.out.2.2.1.2) (And.intro (HG.out.2.2.2.1.kept hb56) (And.intro b6 (g5.kept hb6))))))
                      clear hw6 b6 hb5 hb6 hb56 g5 HG
                      have c0 := HG6.out.1.1.cell (i := 0) rfl
                      have c1 := HG6.out.1.1.cell (i := 1) rfl
                      have c2 := HG6.out.1.1.cell (i := 2) rfl
                      go_wp2_with fail
                      refine (pick_grd HG6.out.1.2.1 (ci := kf) HG6.out.2.1.1.length.2.2.2.2 HG6.out.2.1.2.2 hnf1 hnf4 HG6.out.2.1.2.1 HPP.out.2.1).mono ?_
                      rintro r w7 ⟨A7, k7, B7, e7, rfl, g7, hb7⟩
                      obtain ⟨P, hP⟩ : ∃ P, pickV sN data on fN = P := ⟨_, rfl⟩
                      rw [hP] at g7 ⊢
                      have HP := Lib.hid hP
                      clear c0 c1 c2 hP
                      dsimp only
                      go_upto_region 31 with fail
                      refine wp_named ?_
                      intro w8 hw8
                      have b8 : Blk w8 w7.heap.size [.slice A7 sN.length k7, .int .i64 nf, .slice B7 P.length e7] 24 := by rw [hw8]; exact Blk.at rfl
                      have hb8 : Below w7.heap.size w7 w8 := by rw [hw8]; repeat (first | exact below_alloc _ | refine below_trans ?_ (below_alloc _))
                      have hb78 := below_trans hb7 hb8
                      have HG8 := Lib.hid (And.intro (And.intro (HG6.out.1.1.kept hb78) (And.intro (HG6.out.1.2.1.kept hb78) (below_trans HG6.out.1.2.2 hb78))) (And.intro (And.intro (HG6.out.2.1.1.kept hb78) HG6.out.2.1.2) (And.intro (And.intro (HG6.out.2.2.1.1.kept hb78) HG6.out.2.2.1.2) (And.intro (HG6.out.2.2.2.1.kept hb78) (And.intro (And.intro (HG6.out.2.2.2.2.1.kept hb78) (HG6.out.2.2.2.2.2.kept hb78)) (And.intro b8 (g7.kept hb8)))))))
                      clear hw8 b8 hb7 hb8 hb78 g7 HG6
                      have c0 := HG8.out.2.2.2.2.2.1.cell (i := 0) rfl
                      have c1 := HG8.out.2.2.2.2.2.1.cell (i := 1) rfl
                      have c2 := HG8.out.2.2.2.2.2.1.cell (i := 2) rfl
                      go_wp2_with fail
                      refine (pick_grd HG8.out.2.2.2.2.2.2 (ci := ks) HG8.out.2.2.1.1.length.2.2.2.2 HG8.out.2.2.1.2.2 hng1 hng4 HG8.out.2.2.1.2.1 HPP.out.2.2).mono ?_
                      rintro r w9 ⟨A9, k9, B9, e9, rfl, g9, hb9⟩
                      obtain ⟨Q, hQ⟩ : ∃ Q, pickV sN P nf gN = Q := ⟨_, rfl⟩
                      rw [hQ] at g9 ⊢
                      have HQ := Lib.hid hQ
                      clear c0 c1 c2 hQ
                      dsimp only
                      go_upto_region 32 with fail
                      refine wp_named ?_
                      intro w10 hw10
                      have b10 : Blk w10 w9.heap.size [.slice A9 sN.length k9, .int .i64 ng, .slice B9 Q.length e9] 24 := by rw [hw10]; exact Blk.at rfl
                      have hb10 : Below w9.heap.size w9 w10 := by rw [hw10]; repeat (first | exact below_alloc _ | refine below_trans ?_ (below_alloc _))
                      have hb := below_trans hb9 hb10
                      have HG10 := Lib.hid (And.intro (And.intro (HG8.out.1.1.kept hb) (And.intro (HG8.out.1.2.1.kept hb) (below_trans HG8.out.1.2.2 hb))) (And.intro (And.intro (HG8.out.2.1.1.kept hb) HG8.out.2.1.2) (And.intro HG8.out.2.2.1.2 (And.intro (HG8.out.2.2.2.1.kept hb) (And.intro (And.intro (HG8.out.2.2.2.2.1.1.kept hb) (HG8.out.2.2.2.2.1.2.kept hb)) (And.intro (And.intro (HG8.out.2.2.2.2.2.1.kept hb) (HG8.out.2.2.2.2.2.2.kept hb)) (And.intro b10 (g9.kept hb10))))))))
                      clear hw10 b10 hb9 hb10 hb g9 HG8
                      have c0 := HG10.out.1.1.cell (i := 0) rfl
                      have c1 := HG10.out.1.1.cell (i := 1) rfl
                      have c2 := HG10.out.1.1.cell (i := 2) rfl
                      go_wp2_with fail
                      have hpk := pick_grd HG10.out.1.2.1 (ci := ka) HG10.out.2.2.2.1.length.2.2.2.2 (by rw [List.length_map]; exact HG10.out.2.2.1.2) hng1 hng4 (fun c hc => by
                        obtain ⟨x, hx, rfl⟩ := List.mem_map.1 hc
                        have hxf := HG10.out.2.2.1.1 x hx
                        rw [← HG10.out.2.1.2.2] at hxf
                        rw [List.getD_eq_getElem?_getD, List.getElem?_eq_getElem hxf]
                        exact HG10.out.2.1.2.1 _ (List.getElem_mem hxf)) HPP.out.2.2
                      rw [← pickV_pick (fun x hx => by rw [HG10.out.2.1.2.2]; exact HG10.out.2.2.1.1 x hx), HG10.out.2.1.2.2, HP.out, HQ.out] at hpk
                      refine hpk.mono ?_
                      rintro r w11 ⟨A11, k11, B11, e11, rfl, g11, hb11⟩
                      clear hpk c0 c1 c2
                      dsimp only
                      go_upto_region 33 with fail
                      refine wp_named ?_
                      intro w12 hw12
                      have b12 : Blk w12 w11.heap.size [.slice A11 sN.length k11, .int .i64 ng, .slice B11 Q.length e11] 24 := by rw [hw12]; exact Blk.at rfl
                      have hb12 : Below w11.heap.size w11 w12 := by rw [hw12]; repeat (first | exact below_alloc _ | refine below_trans ?_ (below_alloc _))
                      have hb := below_trans hb11 hb12
                      have HG := Lib.hid (And.intro (And.intro (HG10.out.1.1.kept hb) (And.intro (HG10.out.1.2.1.kept hb) (below_trans HG10.out.1.2.2 hb))) (And.intro (And.intro (HG10.out.2.1.1.kept hb) HG10.out.2.1.2) (And.intro (And.intro (HG10.out.2.2.2.2.2.1.1.kept hb) (HG10.out.2.2.2.2.2.1.2.kept hb)) (And.intro (And.intro (HG10.out.2.2.2.2.1.1.kept hb) (HG10.out.2.2.2.2.1.2.kept hb)) (And.intro (And.intro (HG10.out.2.2.2.2.2.2.1.kept hb) (HG10.out.2.2.2.2.2.2.2.kept hb)) (And.intro b12 (g11.kept hb12)))))))
                      clear hw12 b12 hb11 hb12 hb g11 HG10 HPP
                      have c0 := HG.out.1.1.cell (i := 0) rfl
                      have c1 := HG.out.1.1.cell (i := 1) rfl
                      have c2 := HG.out.1.1.cell (i := 2) rfl
                      have d0 := HG.out.2.2.2.1.1.cell (i := 0) rfl
                      have d1 := HG.out.2.2.2.1.1.cell (i := 1) rfl
                      have d2 := HG.out.2.2.2.1.1.cell (i := 2) rfl
                      go_wp2_with fail
                      refine (same_grd HG.out.2.2.2.1.2 HG.out.1.2.1 rfl rfl rfl).mono ?_
                      rintro r w13 ⟨rfl, hb13⟩
                      have HG1 := Lib.hid (And.intro (And.intro (HG.out.1.1.kept hb13) (And.intro (HG.out.1.2.1.kept hb13) (below_trans HG.out.1.2.2 hb13))) (And.intro (And.intro (HG.out.2.1.1.kept hb13) HG.out.2.1.2) (And.intro (And.intro (HG.out.2.2.1.1.kept hb13) (HG.out.2.2.1.2.kept hb13)) (And.intro (And.intro (HG.out.2.2.2.2.1.1.kept hb13) (HG.out.2.2.2.2.1.2.kept hb13)) (And.intro (HG.out.2.2.2.2.2.1.kept hb13) (HG.out.2.2.2.2.2.2.kept hb13))))))
                      clear c0 c1 c2 d0 d1 d2 hb13 HG
                      have c0 := HG1.out.2.2.2.1.1.cell (i := 0) rfl
                      have c1 := HG1.out.2.2.2.1.1.cell (i := 1) rfl
                      have c2 := HG1.out.2.2.2.1.1.cell (i := 2) rfl
                      have d0 := HG1.out.2.2.2.2.1.cell (i := 0) rfl
                      have d1 := HG1.out.2.2.2.2.1.cell (i := 1) rfl
                      have d2 := HG1.out.2.2.2.2.1.cell (i := 2) rfl
                      go_wp2_with fail
                      refine (same_grd HG1.out.2.2.2.1.2 HG1.out.2.2.2.2.2 rfl rfl rfl).mono ?_
                      rintro r w14 ⟨rfl, hb14⟩
                      have HG := Lib.hid (And.intro (And.intro (HG1.out.1.1.kept hb14) (And.intro (HG1.out.1.2.1.kept hb14) (below_trans HG1.out.1.2.2 hb14))) (And.intro (And.intro (HG1.out.2.1.1.kept hb14) HG1.out.2.1.2) (And.intro (HG1.out.2.2.1.1.kept hb14) (HG1.out.2.2.1.2.kept hb14))))
                      clear c0 c1 c2 d0 d1 d2 hb14 HG1 HQ
                      have e1 := HG.out.2.2.1.cell (i := 1) rfl
                      go_upto_region 35 with fail
                      clear e1
                      have hdn := data_nat HG.out.1.2.1.valid
                      obtain ⟨N, hN⟩ : ∃ N, pr sN = N := ⟨_, rfl⟩
                      have hN0 : 0 < N := by rw [← hN]; exact pr_pos HG.out.1.2.1.valid.pos
                      obtain ⟨q, hq⟩ : ∃ q, nn % N = q := ⟨_, rfl⟩
                      have hqN : q < N := by rw [← hq]; exact Nat.mod_lt _ hN0
                      have hq6 : q ≤ 65536 := by
                        have : q ≤ nn := by rw [← hq]; exact Nat.mod_le _ _
                        omega
                      have hwn : IntKind.i64.wrap (nn : Int) = (nn : Int) := by rw [IntWalk.i64_left]; exact wrap64_id (by omega) (by omega)
                      have htd : Int.tdiv (data.length : Int) (on : Int) = (N : Int) := by rw [hdn, hN, Int.natCast_mul, Int.mul_tdiv_cancel _ (by omega)]
                      have htm : Int.tmod (nn : Int) (N : Int) = (q : Int) := by rw [Int.tmod_eq_emod_of_nonneg (by omega), ← hq]; simp
                      have hN1 : ¬ N = 0 := by omega
                      have hwN : IntKind.i64.wrap (N : Int) = (N : Int) := by rw [IntWalk.i64_left]; exact wrap64_id (by omega) (by omega)
                      have HN := Lib.hid (And.intro hN (And.intro hqN hq6))
                      have c0 := HG.out.1.1.cell (i := 0) rfl
                      have c1 := HG.out.1.1.cell (i := 1) rfl
                      have c2 := HG.out.1.1.cell (i := 2) rfl
                      clear hdn hN hq hqN hq6 hN0 hpr
                      refine wp_seq_all (fun k => k == 11) (fun _ y => .slice (some ⟨y.i, 0, none⟩) sN.length y.k) (fun _ y W => Own W 0 (.slice (some ⟨y.i, 0, none⟩) sN.length y.k) (ints (dg sN q))) (by kernel_rfl) (by kernel_rfl) (fun k y A B hb h => h.kept hb) ?_
                      repeat (first | (refine seq_skip (by rfl) ?_; simp only [Act.put, List.setIfInBounds_toArray, List.set_cons_zero, List.set_cons_succ, Nat.reduceAdd]) | (refine seq_pure (v := ?_) (by rfl) (by rfl) (fun W hW hC => ?_) ?_; rotate_left; (go_simp <;> with_reducible rfl); simp only [Act.put, List.setIfInBounds_toArray, List.set_cons_zero, List.set_cons_succ, Nat.reduceAdd]))
                      refine seq_made (by rfl) (by rfl) (fun W hW hC hF R hR => ?_) (fun y => ?_)
                      · have hix := lawIndex_calls A c sN q W (HG.out.1.2.1.size.length.2.2.2.2.kept hW) HG.out.1.2.1.len1 (by have := HG.out.1.2.1.len4; omega) (fun x hx => by have := HG.out.1.2.1.valid.sizes x (List.mem_map.2 ⟨x, hx, rfl⟩); omega) (by rw [HN.out.1]; exact HN.out.2.1) HN.out.2.2
                        rw [ints_length] at hix
                        unfold Gives; go_simp; refine hix.mono ?_; rintro r w8 ⟨gi, ki, rfl, hoi, hb8⟩; exact ⟨_, rfl, hR {i := gi, k := ki} _ hb8 (hoi.lower (Nat.zero_le _))⟩
                      simp only [Act.put, List.setIfInBounds_toArray, List.set_cons_zero, List.set_cons_succ, Nat.reduceAdd]
                      repeat (first | (refine seq_skip (by rfl) ?_; simp only [Act.put, List.setIfInBounds_toArray, List.set_cons_zero, List.set_cons_succ, Nat.reduceAdd]) | (refine seq_pure (v := ?_) (by rfl) (by rfl) (fun W hW hC => ?_) ?_; rotate_left; (go_simp <;> with_reducible rfl); simp only [Act.put, List.setIfInBounds_toArray, List.set_cons_zero, List.set_cons_succ, Nat.reduceAdd]))
                      refine seq_nil ?_; intro W hW hF
                      have hF1 := hF _ _ (List.mem_cons_self ..)
                      clear hF
                      obtain ⟨gi, hgi⟩ : ∃ g, y.i = g := ⟨_, rfl⟩
                      obtain ⟨ki, hki⟩ : ∃ g, y.k = g := ⟨_, rfl⟩
                      rw [hgi, hki] at hF1
                      rw [hgi, hki]
                      clear hgi hki y
                      have hqp : q < pr sN := by rw [HN.out.1]; exact HN.out.2.1
                      have HX := Lib.hid (And.intro (And.intro (HG.out.1.1.kept hW) (And.intro (HG.out.1.2.1.kept hW) (below_trans HG.out.1.2.2 hW))) (And.intro (And.intro (HG.out.2.1.1.kept hW) HG.out.2.1.2) (And.intro (And.intro (HG.out.2.2.1.kept hW) (HG.out.2.2.2.kept hW)) (And.intro hF1 hqp))))
                      clear c0 c1 c2 HG hW hF1 htd htm hN1 hwn hwN HN hqp
                      have c0 := HX.out.1.1.cell (i := 0) rfl
                      have c1 := HX.out.1.1.cell (i := 1) rfl
                      have c2 := HX.out.1.1.cell (i := 2) rfl
                      go_wp2_with fail
                      have hrl : (rowAt data on q).length = on := rowAt_length HX.out.2.2.2.2 (data_nat HX.out.1.2.1.valid)
                      have hat := at_grd (ci := ki) HX.out.1.2.1 HX.out.2.2.2.1.length.2.2.2.2 (by rw [ints_length, dg_length]) (place_point HX.out.1.2.1.valid HX.out.2.2.2.2).2
                      rw [hrl] at hat
                      refine hat.mono ?_
                      rintro r w15 ⟨Ax, kx, rfl, ox, hb15⟩
                      have HX1 := Lib.hid (And.intro (And.intro (HX.out.1.1.kept hb15) (And.intro (HX.out.1.2.1.kept hb15) (below_trans HX.out.1.2.2 hb15))) (And.intro (And.intro (HX.out.2.1.1.kept hb15) HX.out.2.1.2) (And.intro (And.intro (HX.out.2.2.1.1.kept hb15) (HX.out.2.2.1.2.kept hb15)) (And.intro (And.intro (HX.out.2.2.2.1.kept hb15) HX.out.2.2.2.2) ox))))
                      clear c0 c1 c2 hb15 HX hat ox hrl
                      have c0 := HX1.out.2.2.1.1.cell (i := 0) rfl
                      have c1 := HX1.out.2.2.1.1.cell (i := 1) rfl
                      have c2 := HX1.out.2.2.1.1.cell (i := 2) rfl
                      go_wp2_with fail
                      have hrl : (rowAt P nf q).length = nf := rowAt_length HX1.out.2.2.2.1.2 (data_nat HX1.out.2.2.1.2.valid)
                      have hat := at_grd (ci := ki) HX1.out.2.2.1.2 HX1.out.2.2.2.1.1.length.2.2.2.2 (by rw [ints_length, dg_length]) (place_point HX1.out.2.2.1.2.valid HX1.out.2.2.2.1.2).2
                      rw [hrl] at hat
                      refine hat.mono ?_
                      rintro r w16 ⟨Ay, ky, rfl, oy, hb16⟩
                      have HX2 := Lib.hid (And.intro (And.intro (HX1.out.1.1.kept hb16) (And.intro (HX1.out.1.2.1.kept hb16) (below_trans HX1.out.1.2.2 hb16))) (And.intro (And.intro (HX1.out.2.1.1.kept hb16) HX1.out.2.1.2) (And.intro (And.intro (HX1.out.2.2.1.1.kept hb16) (HX1.out.2.2.1.2.kept hb16)) (And.intro HX1.out.2.2.2.1.2 (And.intro (HX1.out.2.2.2.2.kept hb16) oy)))))
                      clear c0 c1 c2 hb16 HX1 hat oy hrl
                      have c0 := HX2.out.1.1.cell (i := 0) rfl
                      have c1 := HX2.out.1.1.cell (i := 1) rfl
                      have c2 := HX2.out.1.1.cell (i := 2) rfl
                      go_wp2_with fail
                      refine (range_grd HX2.out.1.2.1).mono ?_
                      rintro r w17 ⟨Al, kl, Ah, kh, rfl, ol, oh, -, -, hb17⟩
                      have HX3 := Lib.hid (And.intro (And.intro (HX2.out.1.1.kept hb17) (And.intro (HX2.out.1.2.1.kept hb17) (below_trans HX2.out.1.2.2 hb17))) (And.intro (And.intro (HX2.out.2.1.1.kept hb17) HX2.out.2.1.2) (And.intro (And.intro (HX2.out.2.2.1.1.kept hb17) (HX2.out.2.2.1.2.kept hb17)) (And.intro HX2.out.2.2.2.1 (And.intro (And.intro (HX2.out.2.2.2.2.1.kept hb17) (HX2.out.2.2.2.2.2.kept hb17)) (And.intro ol oh))))))
                      clear c0 c1 c2 hb17 HX2 ol oh
                      have c0 := HX3.out.2.2.1.1.cell (i := 0) rfl
                      have c1 := HX3.out.2.2.1.1.cell (i := 1) rfl
                      have c2 := HX3.out.2.2.1.1.cell (i := 2) rfl
                      go_wp2_with fail
                      refine (range_grd HX3.out.2.2.1.2).mono ?_
                      rintro r w18 ⟨Au, ku, Av, kv, rfl, ou, ov, -, -, hb18⟩
                      have HX4 := Lib.hid (And.intro (HX3.out.1.1.kept hb18) (And.intro (below_trans HX3.out.1.2.2 hb18) (And.intro (And.intro (HX3.out.2.1.1.kept hb18) HX3.out.2.1.2) (And.intro (And.intro HX3.out.1.2.1.valid HX3.out.2.2.2.1) (And.intro (And.intro (HX3.out.2.2.2.2.1.1.kept hb18) (HX3.out.2.2.2.2.1.2.kept hb18)) (And.intro (And.intro (HX3.out.2.2.2.2.2.1.kept hb18) (HX3.out.2.2.2.2.2.2.kept hb18)) (And.intro ou ov)))))))
                      clear c0 c1 c2 hb18 HX3 ou ov
                      have c1 := HX4.out.1.cell (i := 1) rfl
                      go_wp2_with fail
                      clear c1
                      go_loopw [267] (fun j wq => ∃ jn, jn ≤ nf ∧ j = .int .i64 (jn : Nat) ∧ Below w18.heap.size w18 wq) (fun j _ => nf - (intOf j).toNat)
                      case atStart => exact ⟨0, Nat.zero_le _, rfl, Below.refl _ _⟩
                      case round =>
                        obtain ⟨j, hj, rfl, hbq⟩ := hrel
                        by_cases hlj : j < nf
                        · obtain ⟨cx, hcx⟩ : ∃ x, fN[j]? = some x := ⟨_, List.getElem?_eq_getElem (by have := HX4.out.2.2.1.2.2; omega)⟩
                          have hco := HX4.out.2.2.1.2.1 cx (List.mem_of_getElem? hcx)
                          obtain ⟨x, l, h, hx, hl, hh, hlx, hxh⟩ := within_range HX4.out.2.2.2.1.1 HX4.out.2.2.2.1.2 hco
                          have hpl := picked_low HX4.out.2.2.2.1.1 hcx hco
                          rw [HP.out, HX4.out.2.2.1.2.2, hl, hh] at hpl
                          have hpy : (rowAt P nf q)[j]? = some x := by
                            have h1 := pickV_row data on fN HX4.out.2.2.2.1.2
                            rw [HP.out, HX4.out.2.2.1.2.2] at h1
                            rw [h1, pickRow_at _ hcx, hx]; rfl
                          obtain ⟨bf, of, hA1, hcf⟩ := HX4.out.2.2.1.1.length.2.2.2.2 j cx (by unfold ints; rw [List.getElem?_map, hcx]; rfl)
                          obtain ⟨bx, px, hA2, hvx⟩ := HX4.out.2.2.2.2.1.1.length.2.2.2.2 cx x hx
                          obtain ⟨bY, pY, hA3, hvy⟩ := HX4.out.2.2.2.2.1.2.length.2.2.2.2 j x hpy
                          obtain ⟨bl, pl, hA4, hvl⟩ := HX4.out.2.2.2.2.2.1.1.length.2.2.2.2 cx l hl
                          obtain ⟨bh, ph, hA5, hvh⟩ := HX4.out.2.2.2.2.2.1.2.length.2.2.2.2 cx h hh
                          obtain ⟨bu, pu, hA6, hvu⟩ := HX4.out.2.2.2.2.2.2.1.length.2.2.2.2 j l hpl.1
                          obtain ⟨bv, pv, hA7, hvv⟩ := HX4.out.2.2.2.2.2.2.2.length.2.2.2.2 j h hpl.2
                          subst hA1 hA2 hA3 hA4 hA5 hA6 hA7
                          replace hcf := Ytkkohelbidmkdaa.kept hbq hcf
                          replace hvx := Ytkkohelbidmkdaa.kept hbq hvx
                          replace hvy := Ytkkohelbidmkdaa.kept hbq hvy
                          replace hvl := Ytkkohelbidmkdaa.kept hbq hvl
                          replace hvh := Ytkkohelbidmkdaa.kept hbq hvh
                          replace hvu := Ytkkohelbidmkdaa.kept hbq hvu
                          replace hvv := Ytkkohelbidmkdaa.kept hbq hvv
                          have HBQ := Lib.hid hbq
                          clear hcx hx hl hh hpl hpy hbq
                          have hnx : (x != x) = false := by simp
                          have hnl : (l != l) = false := by simp
                          have hnh : (h != h) = false := by simp
                          have hd1 : decide (x < l) = false := decide_eq_false (by omega)
                          have hd2 : decide (h < x) = false := decide_eq_false (by omega)
                          have hd3 : ¬ x < l := by omega
                          have hd4 : ¬ h < x := by omega
                          clear hlx hxh
                          go_upto_region 45 with fail
                          refine wp_seq_all (fun _ => false) (fun _ _ => undef) (fun _ _ _ => True) (by kernel_rfl) (by kernel_rfl) (fun k x A B hb h => h) ?_
                          repeat (first | (refine seq_skip (by rfl) ?_; simp only [Act.put, List.setIfInBounds_toArray, List.set_cons_zero, List.set_cons_succ, Nat.reduceAdd]) | (refine seq_pure (v := ?_) (by rfl) (by rfl) (fun W hW hC => ?_) ?_; rotate_left; (go_simp <;> with_reducible rfl); simp only [Act.put, List.setIfInBounds_toArray, List.set_cons_zero, List.set_cons_succ, Nat.reduceAdd]))
                          refine seq_nil ?_; intro W hW hF
                          clear hF
                          have HBW := Lib.hid (below_trans HBQ.out hW)
                          clear hcf hvx hvy hvl hvh hvu hvv hnx hnl hnh hd1 hd2 hd3 hd4 hW HBQ
                          go_wp2
                          go_roundw
                          case rel => exact ⟨j + 1, by omega, by go_num, HBW.out⟩
                          case measure => simp [intOf]; omega
                        · have HZ := Lib.hid (below_trans HX4.out.2.1 hbq)
                          clear hbq HX4
                          go_wp2
                          go_ret
                          exact ⟨rfl, HZ.out⟩
end Go.Proofs.Ytkkohelbidmkdaa
