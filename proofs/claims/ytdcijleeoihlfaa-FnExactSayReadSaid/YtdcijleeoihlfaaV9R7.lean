/- Contracts: snapshots read from bytes. -/
import Derived.Test.YtdcijleeoihlfaaV9R6
namespace Go.Dat
open Go.Abs
theorem BrkSz.ok {ts : List topicSh.T} {rs : List replySh.T} (H : BrkSz ts rs) : brokerSh.ok (ts, rs) := by
  refine ⟨⟨by have := H.tl; show ts.length ≤ _; omega, fun t ht => ?_⟩, ⟨by have := H.rl; show rs.length ≤ _; omega, fun r hr => ?_⟩⟩
  · have hz := H.ts t ht
    obtain ⟨nm, (b : Int), (hs : List Sh.str.T), (gs : List groupSh.T)⟩ := t
    have h1 : nm.size ≤ 20 := hz.nm
    have h2 : 0 ≤ b ∧ b ≤ 1000000000 := hz.bs
    have h3 : hs.length ≤ 20 := hz.hl
    have h4 : gs.length ≤ 4 := hz.gl
    refine ⟨by show nm.size ≤ _; omega, by show _ ≤ b ∧ b ≤ _; omega, ⟨by show hs.length ≤ _; omega, fun m hm => ?_⟩, ⟨by show gs.length ≤ _; omega, fun g hg => ?_⟩⟩
    · have := hz.hs m hm
      show ByteArray.size m ≤ _; omega
    · obtain ⟨gn, (gk : Int)⟩ := g
      have h5 := hz.gs _ hg
      have h6 : gn.size ≤ 20 := h5.1
      have h7 : 0 ≤ gk ∧ gk ≤ 2000000000 := h5.2
      exact ⟨by show gn.size ≤ _; omega, by show _ ≤ gk ∧ gk ≤ _; omega⟩
  · have hz := H.rs r hr
    obtain ⟨(c : Int), (n : Int), (t : ByteArray)⟩ := r
    have h1 : 1 ≤ c ∧ c ≤ 9 := hz.1
    have h2 : 1 ≤ n ∧ n ≤ 1000000000 := hz.2.1
    have h3 : t.size ≤ 900 := hz.2.2
    exact ⟨by show _ ≤ c ∧ c ≤ _; omega, by show _ ≤ n ∧ n ≤ _; omega, by show t.size ≤ _; omega⟩
theorem BrkSz.cv {ts : List topicSh.T} {rs : List replySh.T} (H : BrkSz ts rs) : brokerSh.cv (ts, rs) ≤ 1000 := by
  have h1 : (Sh.sl topicSh).cn ts ≤ 4 * 60 := Sh.cn_sl (e := topicSh) H.tl (fun t ht => by
    have hz := H.ts t ht
    have h3 : (Sh.sl Sh.str).cn t.2.2.1 ≤ 20 * 1 := Sh.cn_sl (e := Sh.str) hz.hl (fun _ _ => Nat.le_refl _)
    have h4 : (Sh.sl groupSh).cn t.2.2.2 ≤ 4 * 2 := Sh.cn_sl (e := groupSh) hz.gl (fun _ _ => Nat.le_refl _)
    show 1 + (1 + ((Sh.sl Sh.str).cn t.2.2.1 + (Sh.sl groupSh).cn t.2.2.2)) ≤ 60
    omega)
  have h2 : (Sh.sl replySh).cn rs ≤ 9 * 3 := Sh.cn_sl (e := replySh) H.rl (fun _ _ => Nat.le_refl _)
  show (Sh.sl topicSh).cn ts + (Sh.sl replySh).cn rs ≤ 1000
  omega
theorem zok : Sh.int.ok (0 : Int) := ⟨by decide, by decide⟩
theorem nok {s : Sh} : (Sh.sl s).ok [] := ⟨Nat.zero_le _, fun x hx => absurd hx List.not_mem_nil⟩
theorem so_nil {h : AHeap} {s : Sh} : So h s [] (.slice none 0 0) [] := Sn.nil.so
end Go.Dat
namespace Go.Proofs.Ytdcijleeoihlfaa
open Go.Abs Go.Dat
set_option maxRecDepth 100000
set_option maxHeartbeats 8000000
end Go.Proofs.Ytdcijleeoihlfaa
