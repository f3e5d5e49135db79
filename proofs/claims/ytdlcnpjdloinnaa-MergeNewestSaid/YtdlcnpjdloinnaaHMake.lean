/- hits: of a list of entries, each with a number that hangs on its word. -/
import Derived.Test.YtdlcnpjdloinnaaHEnts
namespace Go.Proofs.Ytdlcnpjdloinnaa.H
open Go.RowKit Go.Shelf

def distTo (b0 : Int) (wd : ByteArray) : Nat → Int
  | 0 => b0
  | m + 1 => wrap64 (wrap64 (distTo b0 wd m * 7) + wrap64 (if h : m < wd.size then (wd[m]).toNat else 0))
theorem distTo_succ {b0 : Int} {wd : ByteArray} {m : Nat} (h : m < wd.size) : distTo b0 wd (m + 1) = wrap64 (wrap64 (distTo b0 wd m * 7) + wrap64 (wd[m]).toNat) := by simp [distTo, h]
def hitD (b0 : Int) (wd : ByteArray) : Int := (wrap64 ((distTo b0 wd wd.size).tmod 4 + 4)).tmod 4
def hitOf (b0 : Int) (e : Ent) : Hit := ⟨e.word, e.weight, e.gone, hitD b0 e.word⟩
def hitsOf (b0 : Int) (es : List Ent) : List Hit := es.map (hitOf b0)
set_option maxHeartbeats 1000000 in
theorem hits16_any (es : List Ent) (A : Option Addr) (cap : Nat) (b0 : Int) (w : World) (hb0 : 0 ≤ b0 ∧ b0 ≤ 255) (hl : es.length ≤ 1000000) (hw : ∀ e ∈ es, e.word.size ≤ 1000000) (h : REs w w.heap.size A es) :
    Calls Try.prog 16 #[.slice A es.length cap, .int .u8 b0] w (RetHs w (hitsOf b0 es)) := by
  have hwb : wrap64 b0 = b0 := by unfold wrap64; omega
  go_enter Try.func16, Try.ntmps16
  go_wp2
  go_loopg [5, 6] es.length (fun k v i wr => ∃ j : Nat, k = es.length - j ∧ j ≤ es.length ∧ i = .int .i64 j ∧ OHs wr w.heap.size v (hitsOf b0 (es.take j)) ∧ Below w.heap.size w wr)
  case atStart => exact ⟨0, rfl, Nat.zero_le _, rfl, World.ownsRow_nil _ _ _ _, Below.refl _ _⟩
  case round =>
    obtain ⟨j, hk, hj, rfl, hown, hb⟩ := hrel
    have HK := Lib.hid hk
    clear hk
    have hr : REs wr w.heap.size A es := h.below hb
    have hsz := hb.size
    by_cases hlt : j < es.length
    · obtain ⟨b, off, rfl, hbb, h0, h1, h2⟩ := hr.at_ hlt
      have hws := hw es[j] (List.getElem_mem hlt)
      have hst : hitsOf b0 (es.take (j + 1)) = hitsOf b0 (es.take j) ++ [hitOf b0 es[j]] := by unfold hitsOf; rw [List.take_succ_eq_append_getElem hlt, List.map_append]; rfl
      have HS := Lib.hid hst
      have hal : (hitsOf b0 (es.take j)).length ≤ 1000000000 := by simp [hitsOf]; omega
      clear hst
      go_wp2
      go_loopg [7, 8] (es[j]).word.size (fun k v i wr' => ∃ m : Nat, k = (es[j]).word.size - m ∧ m ≤ (es[j]).word.size ∧ i = .int .i64 m ∧ v = .int .i64 (distTo b0 (es[j]).word m) ∧ wr = wr')
      case atStart => exact ⟨0, rfl, Nat.zero_le _, rfl, by simp [distTo, hwb], rfl⟩
      case round =>
        obtain ⟨m, hkm, hm, rfl, rfl, rfl⟩ := hrel
        have HKM := Lib.hid hkm
        clear hkm
        by_cases hltm : m < (es[j]).word.size
        · have HD := Lib.hid (distTo_succ (b0 := b0) hltm)
          go_wp2
          go_roundg ((es[j]).word.size - (m + 1))
          case rel => exact ⟨m + 1, rfl, by omega, by go_num, by rw [HD.out], rfl⟩
          case measure => rw [HKM.out]; omega
        · have hme : m = (es[j]).word.size := by omega
          have HE := Lib.hid hme
          clear hme
          go_wp2_with (at_builtin; refine wpList_append_hit rfl (.tmp 38) (.tmp 48) rfl w.heap.size _ _ rfl hown _ rfl (by simp) (by simpa using hal) (by omega) ?_; intro v' w' hown' hg' hb'; clear hg')
          go_roundg (es.length - (j + 1))
          case rel =>
            refine ⟨j + 1, rfl, by omega, by go_num, ?_, hb.trans hb'⟩
            rw [HS.out]
            unfold hitOf hitD
            rw [HE.out] at hown'
            exact hown'
          case measure => rw [HK.out]; omega
    · go_wp2
      go_ret
      have e : hitsOf b0 es = hitsOf b0 (es.take j) := by rw [List.take_of_length_le (by omega)]
      rw [e]
      exact ret_hs hown hb
end Go.Proofs.Ytdlcnpjdloinnaa.H
