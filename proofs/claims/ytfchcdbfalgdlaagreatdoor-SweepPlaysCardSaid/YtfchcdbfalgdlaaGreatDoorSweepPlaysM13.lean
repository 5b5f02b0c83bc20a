/- Texts of one proof. No condition but each one's own. -/
import Derived.Test.YtfchcdbfalgdlaaGreatDoorSweepPlaysM5
set_option maxHeartbeats 4000000
set_option maxRecDepth 100000
set_option linter.unusedVariables false
set_option linter.unusedSimpArgs false
namespace Go.Proofs.YtfchcdbfalgdlaaGreatDoor
open _root_.Go.Proofs.Tryz
open Go.RowKit
structure dg(w:World)(base g bs bf:Nat)(v:Value)(p:DP)(w':World)(v':Value):Prop where
 dk:Dk w' base g bs bf v' p
 fr:Fr (bW g bs bf v) w w'
 own:∀k,v'.ownBlock=some k->base<=k/\(v.ownBlock=some k\/w.heap.size<=k)
section
variable {w w' w'':World}{base g bs bf:Nat}{v v' v'':Value}{p q:DP}
theorem dg.same(h:Dk w base g bs bf v p)(b:aa w w'):dg w base g bs bf v p w' v:=⟨h.new b,b.toFr _,λk c=>⟨(h.ours k (.inr (.inr (.inr c)))).1,.inl c⟩⟩
theorem dg.new(h:dg w base g bs bf v p w' v')(b:aa w' w''):dg w base g bs bf v p w'' v':=⟨h.dk.new b,h.fr.trans (b.toFr _),h.own⟩
theorem dg.tr(h:dg w base g bs bf v p w' v')(k:dg w' base g bs bf v' q w'' v''):dg w base g bs bf v q w'' v'':=
 ⟨k.dk,h.fr.trans' k.fr (λb d c=>by
  rcases c with c|c|c|c
  ·exact .inl c
  ·exact .inr (.inl c)
  ·exact .inr (.inr (.inl c))
  ·rcases (h.own b c).2 with h1 | h1
   ·exact .inr (.inr (.inr h1))
   ·omega),λb d=>⟨(k.own b d).1,by
  rcases (k.own b d).2 with h1|h1
  ·exact(h.own b h1).2
  ·exact .inr (by have:=h.fr.size;omega)⟩⟩
end
theorem gu{w:World}{base g bs bf:Nat}{v:Value}{p:DP}(h:Dk w base g bs bf v p){k t:Nat}{cs:Array Value}(c:ac w k t cs)(h1:k≠g)(h2:t≠3):¬bW g bs bf v k:=by
 rintro(b|b|b|b)
 ·exact h1 b
 ·exact mp c h.ms b
 ·exact mp c h.mw b
 ·exact bm h.own c (Ne.symm h2) b
theorem sV{w:World}{base g bs bf:Nat}{v:Value}{p:DP}{t:Nat}(h:Dk w base g bs bf v p)(h1:120≠t)(h2:3≠t):∀k,bW g bs bf v k->¬aK t w k:=by
 rintro k (rfl|rfl|rfl|b)
 ·exact aK.not_blk h.blk h1
 ·exact aK.not_map h.ms
 ·exact aK.not_map h.mw
 ·exact aK.not_own h.own h2 b
end Go.Proofs.YtfchcdbfalgdlaaGreatDoor
