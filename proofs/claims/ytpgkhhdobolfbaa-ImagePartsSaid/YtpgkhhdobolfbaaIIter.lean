/-
  view.pixels: it calls yield at each pixel, row by row.
-/
import Derived.Test.YtpgkhhdobolfbaaIPaste
import Derived.Test.YtpgkhhdobolfbaaIRangeH
namespace Go.Proofs.Ytpgkhhdobolfbaa
set_option linter.unusedVariables false
set_option linter.unusedSimpArgs false
open Go Go.RowKit

/-- The pixels, row by row. -/
def allXY (W H : Nat) : List (Array Value) := (List.range (H * W)).map fun n => #[.int .i64 (n % W : Nat), .int .i64 (n / W : Nat)]

theorem allXY_at {W H x y : Nat} (hx : x < W) (hy : y < H) : (allXY W H)[y * W + x]? = some #[.int .i64 (x : Nat), .int .i64 (y : Nat)] := by
  have hlt : y * W + x < H * W := by
    have : (y + 1) * W ≤ H * W := Nat.mul_le_mul_right _ hy
    rw [Nat.succ_mul] at this
    omega
  unfold allXY
  rw [List.getElem?_map, List.getElem?_range hlt]
  have e1 : (y * W + x) % W = x := by rw [Nat.mul_comm, Nat.mul_add_mod, Nat.mod_eq_of_lt hx]
  have e2 : (y * W + x) / W = y := by rw [Nat.mul_comm, Nat.mul_add_div (by omega), Nat.div_eq_of_lt hx]; omega
  simp only [Option.map_some, e1, e2]
theorem allXY_some {W H k : Nat} {v : Array Value} (h : (allXY W H)[k]? = some v) : k < H * W ∧ k % W < W ∧ k / W < H ∧ v = #[.int .i64 (k % W : Nat), .int .i64 (k / W : Nat)] := by
  unfold allXY at h
  rw [List.getElem?_map] at h
  obtain ⟨n, hn, rfl⟩ := Option.map_eq_some_iff.1 h
  obtain ⟨hl, hv⟩ := List.getElem?_eq_some_iff.1 hn
  rw [List.getElem_range] at hv
  subst hv
  have hk : k < H * W := by simpa using hl
  have hW : 0 < W := by
    rcases Nat.eq_zero_or_pos W with e | e
    · rw [e, Nat.mul_zero] at hk; omega
    · exact e
  exact ⟨hk, Nat.mod_lt _ hW, Nat.div_lt_of_lt_mul (by rw [Nat.mul_comm]; exact hk), rfl⟩
theorem allXY_length (W H : Nat) : (allXY W H).length = H * W := by simp [allXY]

set_option maxRecDepth 100000 in
set_option maxHeartbeats 1600000 in
theorem pixels_iter {L : Lay} (hok : L.Ok) (b : Nat) (O : ByteArray) (V : Value) (w0 : World) :
    IterH Try.prog 47 #[.pointer (some ⟨b, 0, none⟩)] 0 (allXY L.W L.H) w0 (fun A => Blk A b (viewC L O V) 86) := by
  intro l W J hb0 hJ hH hY hJ0 n
  have HJ := Lib.hid hJ
  have HH := Lib.hid hH
  have HY := Lib.hid hY
  have v1 := (hH _ _ hJ0).cell (i := 1) rfl
  have hw2 := hok.w2
  have hh2 := hok.h2
  obtain ⟨lW, hlW⟩ : ∃ q, L.W = q := ⟨_, rfl⟩
  obtain ⟨lH, hlH⟩ : ∃ q, L.H = q := ⟨_, rfl⟩
  rw [hlH] at v1 hh2
  rw [hlW] at hw2
  have HN := Lib.hid (And.intro hlW hlH)
  have hwI : (lW : Int) ≤ 9223372036854775807 := by omega
  have hhI : (lH : Int) ≤ 9223372036854775807 := by omega
  have HB := Lib.hid (And.intro hw2 hh2)
  clear hJ hY hH hok hlW hlH hw2 hh2
  refine callsIn_wide.2 ?_
  go_enter Try.func47, Try.ntmps47
  go_wp2_with fail
  clear v1
  have HJ0 := Lib.hid hJ0
  clear hJ0
  go_loopw [4, 11] (fun _ s wr => ∃ y : Nat, y ≤ lH ∧ s = .int .i64 y ∧ J (y * lW) wr ∧ W.heap.size ≤ wr.heap.size) (fun _ s _ => lH - (intOf s).toNat)
  case atStart => exact ⟨0, Nat.zero_le _, rfl, by rw [Nat.zero_mul]; exact HJ0.out, Nat.le_refl _⟩
  case round =>
    obtain ⟨y, hy0, rfl, hJy, hsz⟩ := hrel
    by_cases hyt : y < lH
    · have hwy : wrap64 ((y : Int) + 1) = ((y + 1 : Nat) : Int) := by unfold wrap64; omega
      have v0 := (HH.out _ _ hJy).cell (i := 0) rfl
      rw [HN.out.1] at v0
      have HR := Lib.hid (And.intro hJy hsz)
      clear hJy hsz
      go_wp2_with fail
      clear v0
      go_loopw [5, 19] (fun _ s wq => ∃ x : Nat, x ≤ lW ∧ s = .int .i64 x ∧ J (y * lW + x) wq ∧ W.heap.size ≤ wq.heap.size) (fun _ s _ => lW - (intOf s).toNat)
      case atStart => exact ⟨0, Nat.zero_le _, rfl, HR.out.1, HR.out.2⟩
      case round =>
        obtain ⟨x, hx0, rfl, hJx, hsz⟩ := hrel
        by_cases hxt : x < lW
        · have hwx : wrap64 ((x : Int) + 1) = ((x + 1 : Nat) : Int) := by unfold wrap64; omega
          obtain ⟨fn, tmps, assign, body, hy, hR⟩ := HY.out 0 (y * lW + x) _ wr (by rw [HN.out.1, HN.out.2]; exact allXY_at hxt hyt) hsz hJx
          have HS := Lib.hid (And.intro hy (And.intro hR hsz))
          clear hy hR hsz hJx
          go_upto_region 6 with fail
          have hy := HS.out.1
          refine (wpIn_wide (n := 1)).1 ?_
          gi_wp2
          refine HS.out.2.1.mono ?_
          rintro e B1 ⟨rfl, hJ', hkz⟩
          have HT := Lib.hid (And.intro hJ' (Nat.le_trans HS.out.2.2 hkz.size))
          clear hJ' hkz hy HS
          dsimp only
          gi_wp2
          go_wp2_with fail
          go_roundw
          case rel => exact ⟨x + 1, by omega, by go_num, by rw [← Nat.add_assoc]; exact HT.out.1, HT.out.2⟩
          case measure => exact meas rfl (by go_num) hxt
        · have HT := Lib.hid (And.intro hJx hsz)
          clear hJx hsz
          go_wp2_with fail
          have hxe : x = lW := by omega
          subst hxe
          go_roundw
          case rel => exact ⟨y + 1, by omega, by go_num, by rw [Nat.succ_mul]; exact HT.out.1, HT.out.2⟩
          case measure => exact meas rfl (by go_num) hyt
    · have HT := Lib.hid hJy
      clear hJy
      go_wp2_with fail
      have hye : y = lH := by omega
      subst hye
      refine bodyPost_end (v := .tuple #[]) (by simp [results, Try.results47, go_sem]) rfl ⟨⟨_, rfl⟩, ?_⟩
      rw [allXY_length, HN.out.1, HN.out.2]
      exact HT.out
end Go.Proofs.Ytpgkhhdobolfbaa
