/- The law WordsQuotes, walked. -/
import Derived.Test.YtabopillicdjaaaGreatDoorWQte
namespace Go.Proofs.YtabopillicdjaaaGreatDoor
open Go.RowKit
open Wd (quoteL unquoteS unquoteE)
theorem wq_is (s u : ByteArray) (h : u.data.toList = quoteL s.data.toList) (w : World) (hs : s.size ≤ 9000) (hg : Gl w) : Calls Tryz.prog 11 #[.string s] w fun e w' => e = .returned (.string u) ∧ Ow w w' := by
  have := wquote_any s w hs hg
  unfold QtPost at this
  rwa [← h, ba_mk] at this
theorem wu_is (s t : ByteArray) (m : Int) (ht : t.data.toList = unquoteS s.data.toList) (hm : unquoteE s.data.toList = m) (w : World) (hs : s.size ≤ 20000) (hg : Gl w) : Calls Tryz.prog 10 #[.string s] w fun e w' => e = .returned (.tuple #[.string t, .int .i64 m]) ∧ Ow w w' := by
  refine (Unquote_any s w hs hg).mono fun e w' ⟨h1, h2⟩ => ⟨?_, h2⟩
  rw [h1, ← ht, ba_mk, hm]
end Go.Proofs.YtabopillicdjaaaGreatDoor
