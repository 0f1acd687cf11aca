/- The document's kernel and environment beside each other; the walks of may, page, drop. -/
import Derived.Test.YtjjdjpdmgaipeaaGreatCwRnP
import Derived.Test.YtjjdjpdmgaipeaaGreatCwRefW
import Derived.Test.YtjjdjpdmgaipeaaGreatCwRsp
import Derived.Test.YtjjdjpdmgaipeaaGreatCwZa
set_option linter.unusedVariables false
set_option linter.unusedSimpArgs false
set_option maxRecDepth 100000
set_option maxHeartbeats 16000000
open Go.Proofs.Tryz
namespace Go.Proofs.YtjjdjpdmgaipeaaGreat
open Go.RowKit
structure DKE(w:World)(a:RkAt)(K:Kn)(e:RAt)(R:List Rp)(E:En):Prop where
 kn:Rkl w a K
 en:Renv w e R E
 apart:∀x,e.foot R x→a.tag x=0
structure DkStep(W w:World)(a0:RkAt)(e0:RAt)(R0:List Rp)(a:RkAt)(K:Kn)(e:RAt)(R:List Rp)(E:En):Prop where
 j:DKE w a K e R E
 same:(a.kb=a0.kb∧a.c.rb=a0.c.rb∧a.n.rb=a0.n.rb)∧e.eb=e0.eb
 mod:Mod (fun x=>a0.wf x∨e0.foot R0 x) W w
 tag:∀k,k<W.heap.size→a.tag k=a0.tag k
 foot:∀k,e.foot R k→e0.foot R0 k∨W.heap.size≤k
namespace DKE
variable {w w':World} {a a':RkAt} {K K':Kn} {e e':RAt} {R R':List Rp} {E E':En}
theorem below(h:DKE w a K e R E)(hb:Below w.heap.size w w'):DKE w' a K e R E:=⟨h.kn.below hb,h.en.below hb,h.apart⟩
theorem left(h:DKE w a K e R E)(s:RkStep w w' a K a' K'):DKE w' a' K' e R E:=
 ⟨s.k,h.en.keep s.mod fun x hx g=>g.1 (h.apart x hx),fun x hx=>(s.tag x (h.en.lt x hx)).trans (h.apart x hx)⟩
theorem right(h:DKE w a K e R E)(s:RvStep w w' e R E e' R' E'):DKE w' a K e' R' E':=
 ⟨h.kn.keep s.mod fun x hx g=>hx (h.apart x g),s.ren,fun x hx=>by
  rcases s.foot x hx with g|g
  ·exact h.apart x g
  ·exact Decidable.byContradiction fun q=>absurd (h.kn.lt x q) (by omega)⟩
end DKE
namespace DkStep
variable {W w w':World} {a0 a a':RkAt} {K K':Kn} {e0 e e':RAt} {R0 R R':List Rp} {E E':En}
theorem refl(h:DKE w a K e R E):DkStep w w a e R a K e R E:=⟨h,⟨⟨rfl,rfl,rfl⟩,rfl⟩,Mod.refl _ _,fun _ _=>rfl,fun _ g=>.inl g⟩
theorem below(h:DkStep W w a0 e0 R0 a K e R E)(hb:Below w.heap.size w w'):DkStep W w' a0 e0 R0 a K e R E:=
 { h with j:=h.j.below hb,mod:=h.mod.trans (Mod.of_below hb (fun _=>False)) fun _ _ g=>g.elim }
theorem left(h:DkStep W w a0 e0 R0 a K e R E)(s:RkStep w w' a K a' K'):DkStep W w' a0 e0 R0 a' K' e R E where
 j:=h.j.left s
 same:=⟨⟨s.same.1.trans h.same.1.1,s.same.2.1.trans h.same.1.2.1,s.same.2.2.trans h.same.1.2.2⟩,h.same.2⟩
 mod:=h.mod.trans s.mod fun i _ g=>by
  rcases Nat.lt_or_ge i W.heap.size with q|q
  ·exact .inl (.inl ⟨by rw[←h.tag i q];exact g.1,by rw[←h.tag i q];exact g.2⟩)
  ·exact .inr q
 tag:=fun k hk=>(s.tag k (Nat.lt_of_lt_of_le hk h.mod.size)).trans (h.tag k hk)
 foot:=h.foot
theorem right(h:DkStep W w a0 e0 R0 a K e R E)(s:RvStep w w' e R E e' R' E'):DkStep W w' a0 e0 R0 a K e' R' E' where
 j:=h.j.right s
 same:=⟨h.same.1,s.same.trans h.same.2⟩
 mod:=h.mod.trans s.mod fun i _ g=>(h.foot i g).imp .inr id
 tag:=h.tag
 foot:=fun k hk=>(s.foot k hk).elim (h.foot k) fun q=>.inr (Nat.le_trans h.mod.size q)
end DkStep
end Go.Proofs.YtjjdjpdmgaipeaaGreat
