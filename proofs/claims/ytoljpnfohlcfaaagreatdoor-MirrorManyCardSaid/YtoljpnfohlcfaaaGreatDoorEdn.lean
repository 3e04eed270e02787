/- Editions in memory. -/
import Derived.Test.YtoljpnfohlcfaaaGreatDoorClone
namespace Go.Proofs.YtoljpnfohlcfaaaGreatDoor
open Go.RowKit

structure Edn where
  stamp : List Int
  snap : List Int
  aim : List Int
  bundle : List Int
  chunk : Int
def ednR : Rep Edn := Rep.iso (Rep.pair bytesR (Rep.pair bytesR (Rep.pair bytesR (Rep.pair bytesR (Rep.int .i64))))) fun e => (e.stamp, e.snap, e.aim, e.bundle, e.chunk)
theorem ednR_mk {h : Hp} {x : Edn} {s0 s1 s2 s3 : Value} (h0 : SV u8 h s0 x.stamp) (h1 : SV u8 h s1 x.snap) (h2 : SV u8 h s2 x.aim) (h3 : SV u8 h s3 x.bundle) (hc : (Lit.int .i64 x.chunk).wf = true) :
    ednR.K h x [s0, s1, s2, s3, .int .i64 x.chunk] :=
  ⟨[s0], _, rfl, ⟨_, rfl, h0⟩, [s1], _, rfl, ⟨_, rfl, h1⟩, [s2], _, rfl, ⟨_, rfl, h2⟩, [s3], _, rfl, ⟨_, rfl, h3⟩, rfl, hc⟩
theorem ednR_elim {h : Hp} {x : Edn} {cs : List Value} (hk : ednR.K h x cs) :
    ∃ s0 s1 s2 s3, cs = [s0, s1, s2, s3, .int .i64 x.chunk] ∧ SV u8 h s0 x.stamp ∧ SV u8 h s1 x.snap ∧ SV u8 h s2 x.aim ∧ SV u8 h s3 x.bundle ∧ (Lit.int .i64 x.chunk).wf = true := by
  obtain ⟨_, _, rfl, ⟨s0, rfl, h0⟩, _, _, rfl, ⟨s1, rfl, h1⟩, _, _, rfl, ⟨s2, rfl, h2⟩, _, _, rfl, ⟨s3, rfl, h3⟩, rfl, hc⟩ := hk
  exact ⟨s0, s1, s2, s3, rfl, h0, h1, h2, h3, hc⟩
theorem info_ed : (Tryz.prog.info? 34).map (fun i => (i.zero, i.size, i.bytes)) = some (some (.agg #[.slice none 0 0, .slice none 0 0, .slice none 0 0, .slice none 0 0, .int .i64 0]), 5, 104) := by kernel_rfl
theorem sty_eds : STy Tryz.prog 28 34 5 104 := STy.mk Tryz.underlying28 info_ed rfl (by decide) (by decide)
end Go.Proofs.YtoljpnfohlcfaaaGreatDoor
