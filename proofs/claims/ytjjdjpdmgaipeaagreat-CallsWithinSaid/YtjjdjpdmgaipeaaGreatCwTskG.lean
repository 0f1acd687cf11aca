/- TskG, EnvX, WiP in one text. -/
import Derived.Test.YtjjdjpdmgaipeaaGreatCwKnG
import Derived.Test.YtjjdjpdmgaipeaaGreatCwCpuW
import Derived.Deep.RegionHeld3
import Derived.Deep.QuietTactic
import Derived.BigQuiet
import Derived.Test.YtjjdjpdmgaipeaaGreatCwZa
set_option linter.unusedVariables false
set_option linter.unusedSimpArgs false
set_option maxRecDepth 100000
set_option maxHeartbeats 16000000
open Go.Proofs.Tryz
namespace Go.Proofs.YtjjdjpdmgaipeaaGreat
open Go.RowKit Word
section
variable {P:Program} {ops:Array Oper} {Q:Exit→Act→World→Prop} {md:Region.Mode} {S T:World→Prop}
theorem H_one{l:List Oper}{i:Nat}{o:Oper}{fuel:Nat}{listed:Array Bool}{a:Act}{w:World}(hr:Region.ready md l.toArray listed=[i])(ho:l[i]? =some o)
  (h:∀K':Act→World→Prop,Shut (∀a w,S w→(S w→wpAnyH P md l.toArray Q S fuel (listed.setIfInBounds i true) a w)→K' a w)→if Region.wanted o (yielded l.toArray a.tmps)=true then Oper.wp P o a w K' Q else K' (a.put o.dst undef) w):
  wpAnyH P md l.toArray Q S (fuel+1) listed a w:=
 wpAnyH_ready hr (by simp) (AllReadyH.cons (by rw[List.getElem?_toArray];exact ho) h AllReadyH.nil)
theorem H_take{l:List Oper}{i:Nat}{oi:Oper}{v:Value}{fuel:Nat}{listed:Array Bool}{a:Act}{w:World}(hi:l[i]? =some oi)
  (hs:Region.noSelect l.toArray=true) (hf:Region.free md l.toArray listed i=true) (hr:(Region.ready md l.toArray listed).contains i=true)
  (hQ:∀c a w,Q (.panic c) (a.put oi.dst v) w→Q (.panic c) a w) (hy:YieldsIf P l.toArray S oi v a) (hS:S w)
  (h:wpAnyH P md l.toArray Q S fuel (listed.setIfInBounds i true) (a.put oi.dst v) w):wpAnyH P md l.toArray Q S (fuel+1) listed a w:=
 wpAnyH_take (by rw[List.getElem?_toArray];exact hi) hs hf hr hQ hy hS h
end
structure KE(w:World)(a:KAt)(K:Kn)(e:EAt)(E:En):Prop where
 kn:Knl w a K
 en:Env w e E
 apart:∀x,e.foot E.A x→a.tag x=0
structure JStep(W w:World)(a0:KAt)(e0:EAt)(A0:List Pg)(a:KAt)(K:Kn)(e:EAt)(E:En):Prop where
 j:KE w a K e E
 same:(a.kb=a0.kb∧a.c.cb=a0.c.cb∧a.nb=a0.nb)∧e.eb=e0.eb∧e.sb=e0.sb∧e.mb=e0.mb∧e.cb=e0.cb
 mod:Mod (fun x=>a0.wf x∨e0.foot A0 x) W w
 tag:∀k,k<W.heap.size→a.tag k=a0.tag k
 foot:∀k,e.foot E.A k→e0.foot A0 k∨W.heap.size≤k
namespace KE
variable {w w':World} {a a':KAt} {K K':Kn} {e e':EAt} {E E':En}
theorem below(h:KE w a K e E)(hb:Below w.heap.size w w'):KE w' a K e E:=⟨h.kn.below hb,h.en.below hb,h.apart⟩
theorem left(h:KE w a K e E)(s:KStep w w' a K a' K'):KE w' a' K' e E:=
 ⟨s.k,h.en.keep s.mod fun x hx g=>g.1 (h.apart x hx),fun x hx=>(s.tag x (h.en.lt x hx)).trans (h.apart x hx)⟩
theorem right(h:KE w a K e E)(s:EStep w w' e E e' E'):KE w' a K e' E':=
 ⟨h.kn.keep s.mod fun x hx g=>hx (h.apart x g),s.env,fun x hx=>by
  rcases s.foot x hx with g|g
  ·exact h.apart x g
  ·exact Decidable.byContradiction fun q=>absurd (h.kn.lt x q) (by omega)⟩
end KE
namespace JStep
variable {W w w':World} {a0 a a':KAt} {K K':Kn} {e0 e e':EAt} {A0:List Pg} {E E':En}
theorem refl(h:KE w a K e E):JStep w w a e E.A a K e E:=⟨h,⟨⟨rfl,rfl,rfl⟩,rfl,rfl,rfl,rfl⟩,Mod.refl _ _,fun _ _=>rfl,fun _ g=>.inl g⟩
theorem below(h:JStep W w a0 e0 A0 a K e E)(hb:Below w.heap.size w w'):JStep W w' a0 e0 A0 a K e E:=
 { h with j:=h.j.below hb,mod:=h.mod.trans (Mod.of_below hb (fun _=>False)) fun _ _ g=>g.elim }
theorem left(h:JStep W w a0 e0 A0 a K e E)(s:KStep w w' a K a' K'):JStep W w' a0 e0 A0 a' K' e E where
 j:=h.j.left s
 same:=⟨⟨s.same.1.trans h.same.1.1,s.same.2.1.trans h.same.1.2.1,s.same.2.2.trans h.same.1.2.2⟩,h.same.2⟩
 mod:=h.mod.trans s.mod fun i _ g=>by
  rcases Nat.lt_or_ge i W.heap.size with q|q
  ·exact .inl (.inl ⟨by rw[←h.tag i q];exact g.1,by rw[←h.tag i q];exact g.2⟩)
  ·exact .inr q
 tag:=fun k hk=>(s.tag k (Nat.lt_of_lt_of_le hk h.mod.size)).trans (h.tag k hk)
 foot:=h.foot
theorem right(h:JStep W w a0 e0 A0 a K e E)(s:EStep w w' e E e' E'):JStep W w' a0 e0 A0 a K e' E' where
 j:=h.j.right s
 same:=⟨h.same.1,s.same.1.trans h.same.2.1,s.same.2.1.trans h.same.2.2.1,s.same.2.2.1.trans h.same.2.2.2.1,s.same.2.2.2.trans h.same.2.2.2.2⟩
 mod:=h.mod.trans s.mod fun i _ g=>(h.foot i g).imp .inr id
 tag:=h.tag
 foot:=fun k hk=>(s.foot k hk).elim (h.foot k) fun q=>.inr (Nat.le_trans h.mod.size q)
theorem turn{F:Nat→Prop}(h:JStep W w a0 e0 A0 a K e E)(hm:Mod F w w')(hF:∀k,F k→a.tag k=0∧¬e.foot E.A k∧W.heap.size≤k):JStep W w' a0 e0 A0 a K e E where
 j:=⟨h.j.kn.keep hm fun x hx g=>hx (hF x g).1,h.j.en.keep hm fun x hx g=>(hF x g).2.1 hx,h.j.apart⟩
 same:=h.same
 mod:=h.mod.trans hm fun i _ g=>.inr (hF i g).2.2
 tag:=h.tag
 foot:=h.foot
end JStep
theorem KEn.ke{w0 w:World}{a:KAt}{K:Kn}{e:EAt}{E:En}(h:KEn w0 w a K e E):KE w a K e E:=⟨h.kn,h.en,h.apart⟩
theorem KEn.step{w0 w w':World}{a a':KAt}{K K':Kn}{e e':EAt}{E E':En}(h:KEn w0 w a K e E)(s:JStep w w' a e E.A a' K' e' E')(hn:E'.num=E.num):KEn w0 w' a' K' e' E' where
 kn:=s.j.kn
 en:=s.j.en
 apart:=s.j.apart
 bel:=Mod.below h.bel s.mod h.bel.size fun i _ g=>g.elim (fun q=>h.k0 i q.1) (h.e0 i)
 k0:=fun x hx=>by
  rcases Nat.lt_or_ge x w.heap.size with q|q
  ·exact h.k0 x (by rw[←s.tag x q];exact hx)
  ·exact Nat.le_trans h.bel.size q
 e0:=fun x hx=>(s.foot x hx).elim (h.e0 x) fun g=>Nat.le_trans h.bel.size g
 num:=by rw[hn];exact h.num
structure Evt where
 kind:Int
 env:Int
 text:ByteArray
 num:Int
 seen:Bool
def Evt.none:Evt:=⟨0,0,ByteArray.empty,0,false⟩
structure Tk(W w:World)(tb:Nat)(a0:KAt)(e0:EAt)(A0:List Pg)(a:KAt)(K:Kn)(e:EAt)(E:En)(x:Evt):Prop where
 s:JStep W w a0 e0 A0 a K e E
 blk:w.heap[tb]? =some (.cells #[.pointer (some ⟨a.kb,0,none⟩),.pointer (some ⟨e.eb,0,none⟩),.int .u8 x.kind,.int .i64 x.env,.string x.text,.int .u32 x.num,.bool x.seen] 170 (0,0))
 ta:a.tag tb=0
 te:¬e.foot E.A tb
 t0:W.heap.size≤tb
 n1:1≤E.num∧E.num≤8
theorem Tk.i64{W w:World}{tb:Nat}{a0 a:KAt}{K:Kn}{e0 e:EAt}{A0:List Pg}{E:En}{x:Evt}(h:Tk W w tb a0 e0 A0 a K e E x):I64 E.num:=⟨by have:=h.n1;omega,by have:=h.n1;omega⟩
namespace Tk
variable {W w w':World} {tb:Nat} {a0 a a':KAt} {K K':Kn} {e0 e e':EAt} {A0:List Pg} {E E':En} {x:Evt}
theorem below(h:Tk W w tb a0 e0 A0 a K e E x)(hb:Below w.heap.size w w'):Tk W w' tb a0 e0 A0 a K e E x:=
 { h with s:=h.s.below hb,blk:=(hb.block _ (lt_of_block h.blk)).trans h.blk }
theorem left(h:Tk W w tb a0 e0 A0 a K e E x)(s:KStep w w' a K a' K'):Tk W w' tb a0 e0 A0 a' K' e E x where
 s:=h.s.left s
 blk:=(s.mod.block _ (lt_of_block h.blk) fun g=>g.1 h.ta).trans (by rw[s.same.1];exact h.blk)
 ta:=(s.tag _ (lt_of_block h.blk)).trans h.ta
 te:=h.te
 t0:=h.t0
 n1:=h.n1
theorem right(h:Tk W w tb a0 e0 A0 a K e E x)(s:EStep w w' e E e' E')(hn:E'.num=E.num):Tk W w' tb a0 e0 A0 a K e' E' x where
 s:=h.s.right s
 blk:=(s.mod.block _ (lt_of_block h.blk) h.te).trans (by rw[s.same.1];exact h.blk)
 ta:=h.ta
 te:=fun g=>(s.foot _ g).elim h.te fun q=>by have:=lt_of_block h.blk;omega
 t0:=h.t0
 n1:=by rw[hn];exact h.n1
theorem cell(h:Tk W w tb a0 e0 A0 a K e E x)(i:Nat)(v:Value)(hi: #[Value.pointer (some ⟨a.kb,0,Option.none⟩),.pointer (some ⟨e.eb,0,Option.none⟩),.int .u8 x.kind,.int .i64 x.env,.string x.text,.int .u32 x.num,.bool x.seen][i]? =some v):w.cell? ⟨tb,i,Option.none⟩=some v:=by
 unfold World.cell?;rw[h.blk];exact hi
theorem cells(h:Tk W w tb a0 e0 A0 a K e E x):w.cell? ⟨tb,0,Option.none⟩=some (.pointer (some ⟨a.kb,0,Option.none⟩))∧w.cell? ⟨tb,1,Option.none⟩=some (.pointer (some ⟨e.eb,0,Option.none⟩)):=
 ⟨h.cell 0 _ rfl,h.cell 1 _ rfl⟩
theorem all(h:Tk W w tb a0 e0 A0 a K e E x):w.cell? ⟨tb,0,Option.none⟩=some (.pointer (some ⟨a.kb,0,Option.none⟩))∧w.cell? ⟨tb,1,Option.none⟩=some (.pointer (some ⟨e.eb,0,Option.none⟩))∧w.cell? ⟨a.kb,2,Option.none⟩=some (.pointer (some ⟨a.c.cb,0,Option.none⟩))∧w.cell? ⟨a.kb,3,Option.none⟩=some (.pointer (some ⟨a.nb,0,Option.none⟩))∧w.cell? ⟨a.kb,5,Option.none⟩=some (.int .u32 K.now):=
 ⟨h.cell 0 _ rfl,h.cell 1 _ rfl,h.s.j.kn.cell 2 _ rfl,h.s.j.kn.cell 3 _ rfl,h.s.j.kn.cell 5 _ rfl⟩
theorem free(h:Tk W w tb a0 e0 A0 a K e E x)(i:Nat):w.frozen? ⟨tb,i,Option.none⟩=false:=by
 unfold World.frozen?;rw[h.blk]
 simp
def put(w:World)(tb:Nat)(y:Evt):World:=((((w.setCell ⟨tb,2,Option.none⟩ (.int .u8 y.kind)).setCell ⟨tb,3,Option.none⟩ (.int .i64 y.env)).setCell ⟨tb,4,Option.none⟩ (.string y.text)).setCell ⟨tb,5,Option.none⟩ (.int .u32 y.num)).setCell ⟨tb,6,Option.none⟩ (.bool y.seen)
theorem show'(h:Tk W w tb a0 e0 A0 a K e E x)(y:Evt):Tk W (put w tb y) tb a0 e0 A0 a K e E y:=by
 have hm:Mod (fun i=>i=tb) w (put w tb y):=Mod.setCell (F:=fun i=>i=tb) (Mod.setCell (F:=fun i=>i=tb) (Mod.setCell (F:=fun i=>i=tb) (Mod.setCell (F:=fun i=>i=tb) (Mod.setCell (F:=fun i=>i=tb) (Mod.refl _ _) ⟨tb,2,Option.none⟩ (.inl rfl) _) ⟨tb,3,Option.none⟩ (.inl rfl) _) ⟨tb,4,Option.none⟩ (.inl rfl) _) ⟨tb,5,Option.none⟩ (.inl rfl) _) ⟨tb,6,Option.none⟩ (.inl rfl) _;have b1:=heap_setCell_same w tb 2 _ _ (.int .u8 y.kind) h.blk;have b2:=heap_setCell_same _ tb 3 _ _ (.int .i64 y.env) b1;have b3:=heap_setCell_same _ tb 4 _ _ (.string y.text) b2;have b4:=heap_setCell_same _ tb 5 _ _ (.int .u32 y.num) b3;have b5:=heap_setCell_same _ tb 6 _ _ (.bool y.seen) b4;exact⟨h.s.turn hm fun k hk=>by subst hk;exact⟨h.ta,h.te,h.t0⟩,b5,h.ta,h.te,h.t0,h.n1⟩
end Tk
def evOf(x:Evt)(c:Co):Evt:=if c.ev=0 then x else⟨c.ev,c.E.num,c.s,0,true⟩
def CallPost(W:World)(tb:Nat)(a0:KAt)(e0:EAt)(A0:List Pg)(x:Evt)(f:Nat→Co)(e:Ending)(w':World):Prop:=
 ∃blk a' e',e=.returned (.tuple #[.int .u32 (f blk).v,.int .u32 (f blk).y])∧Tk W w' tb a0 e0 A0 a' (f blk).K e' (f blk).E (evOf x (f blk))
theorem arg_bd{w:World}{a:EAt}{E:En}(h:Env w a E)(n:Int):0≤E.arg n∧E.arg n≤4294967295:=by
 unfold En.arg
 split
 ·exact Cp.rg_bd h.cp.regs n
 ·omega
theorem fin_no{W w:World}{tb:Nat}{a0 a:KAt}{K:Kn}{e0 e:EAt}{A0:List Pg}{E:En}{x:Evt}(h:Tk W w tb a0 e0 A0 a K e E x){f:Nat→Co}(y:Int)(hf:∀b,f b=Co.no K E y):CallPost W tb a0 e0 A0 x f (.returned (.tuple #[.int .u32 0,.int .u32 y])) w:=
 ⟨0,a,e,by rw[hf];rfl,by rw[hf];exact h⟩
theorem fin_of{W V:World}{tb:Nat}{a0 a':KAt}{e0 e':EAt}{A0:List Pg}{x:Evt}{f:Nat→Co}{c:Co}(b:Nat)(hf:f b=c)(h:Tk W V tb a0 e0 A0 a' c.K e' c.E (evOf x c)):CallPost W tb a0 e0 A0 x f (.returned (.tuple #[.int .u32 c.v,.int .u32 c.y])) V:=
 ⟨b,a',e',by rw[hf],by rw[hf];exact h⟩
theorem page_num(E:En)(v:Int)(b:Nat):(E.page v b).num=E.num:=by unfold En.page;split<;>rfl
theorem drop_num(E:En)(v:Int):(E.drop v).num=E.num:=by
 unfold En.drop
 split
 ·rfl
 ·split<;>rfl
theorem put_num(E:En)(s:ByteArray):(E.put s).num=E.num:=by unfold En.put;split<;>rfl
theorem drop_same{E:En}(hok:E.Ok){x:Int}(h:E.dropE x≠0):E.drop x=E:=by
 unfold En.dropE at h;unfold En.drop
 by_cases h1:E.mayE x≠0
 ·rw[if_pos h1]
 ·rw[if_neg h1] at h⊢
  by_cases h2:x∈E.own
  ·rw[if_pos h2] at h;obtain⟨m1,m2,m3⟩:=hok.may x h2;have hm:Sp.mayB x=true:=by unfold Sp.mayB;simp[m1,m3]
   have hp:Sp.unmapE E.A x=0:=by
    unfold Sp.unmapE;rw[if_neg (by rw[hm];decide),if_pos];unfold pageAt;rw[m1,Int.sub_zero];exact hok.has x h2
   exact absurd hp h
  ·rw[if_neg h2]
theorem put_same{E:En}{s:ByteArray}(h:E.putE s≠0):E.put s=E:=by unfold En.put;rw[if_pos h]
theorem take_same{g:Option Gr}(h:Gp.takeE g≠0):Gp.take g=g:=by
 unfold Gp.takeE at h;unfold Gp.take;cases g with
 |none=>rfl
 |some G=>
  simp only at h⊢
  split
  ·rfl
  ·rename_i q;rw[if_neg q] at h;exact absurd rfl h
theorem take_sameG{G:Int→Option Gr}{n:Int}(h:Gp.takeE (G n)≠0):Gp.upd G n (Gp.take (G n))=G:=by rw[take_same h,Gp.upd_same]
theorem putA_addrs(A:List Pg)(x need:Int)(s:ByteArray):(Sp.putA A x need s).map Pg.addr=A.map Pg.addr:=by
 have h1:∀(A:List Pg) (x v:Int),(setByte A x v).map Pg.addr=A.map Pg.addr:=fun A x v=>by
  unfold setByte;rw[List.map_map];exact List.map_congr_left fun p _=>setPg_addr x v p
 have h2:∀(A:List Pg) (addr:Int) (xs:List Int) (k:Nat),(putN A addr xs k).map Pg.addr=A.map Pg.addr:=fun A addr xs k=>by
  induction k with
  |zero=>rfl
  |succ k ih=>exact(h1 _ _ _).trans ih
 unfold Sp.putA
 split
 ·exact h2 _ _ _ _
 ·rfl
theorem putA_own{E:En}(h:E.Ok)(x need:Int)(s:ByteArray):∀y,y∈E.own→(atAddr (Sp.putA E.A x need s) y).isSome=true:=fun y hy=>by
 have:=h.has y hy;rw[isSome_addr] at this⊢;rw[putA_addrs];exact this
theorem putA_same{A:List Pg}{x need:Int}{s:ByteArray}(h:Sp.fitsE A x s.size need≠0):Sp.putA A x need s=A:=by
 unfold Sp.fitsE at h;unfold Sp.putA
 split
 ·rename_i q;rw[if_pos q] at h;exact absurd rfl h
 ·rfl
theorem getS_size{A:List Pg}{x n:Int}(n0:0≤n)(h:Sp.getE A x n 1=0):(Sp.getS A x n 1).size=n.toNat:=by
 unfold Sp.getE at h;unfold Sp.getS
 split at h
 ·cases h
 ·rename_i q
  rw[if_neg q];unfold Sp.fitsE at h
  split at h
  ·rename_i q2
   rw[if_pos q2];have:=strOfNums_size (Sp.getL A x n.toNat);rw[this,Sp.getL_length]
  ·cases h
namespace Ni
theorem from'(f:ByteArray)(hf:f.size<140737488355328)(w:World):Calls Tryz.prog 96 #[.string f] w fun e w'=>e=.returned (.tuple #[.int .u16 (portV f 20),.bool (portB f)])∧Below w.heap.size w w':=by
 have hp:∀w,Calls Tryz.prog 185 #[.string f,.int .i64 20] w fun e w'=>e=.returned (.tuple #[.int .u16 (portV f 20),.bool (portB f)])∧Below w.heap.size w w':=fun w=>port f hf 20 (by omega) w
 go_enter func96,ntmps96;go_wp2_with (go_at_call 185;(with_reducible refine(hp _).mono ?_);rintro e w1 ⟨rfl,hb⟩);go_ret2;exact⟨rfl,by assumption⟩
end Ni
open Go.RowKit
theorem Kn.block_some{B:List (List ByteArray)}{id n:Int}{s:ByteArray}(h:Kn.block B id n=some s):∃(i j:Nat) (l:List ByteArray),id=i∧n=j∧B[i]? =some l∧l[j]? =some s:=by
 unfold Kn.block at h
 split at h
 ·rename_i hc
  obtain⟨i,rfl⟩:=Int.eq_ofNat_of_zero_le hc.1;obtain⟨j,rfl⟩:=Int.eq_ofNat_of_zero_le hc.2;rw[Option.bind_eq_some_iff] at h;obtain⟨l,h1,h2⟩:=h;exact⟨i,j,l,rfl,rfl,h1,h2⟩
 ·cases h
theorem Kn.block_of{B:List (List ByteArray)}{i j:Nat}{l:List ByteArray}{s:ByteArray}(h1:B[i]? =some l)(h2:l[j]? =some s):Kn.block B i j=some s:=by
 unfold Kn.block;rw[if_pos ⟨by omega,by omega⟩,Int.toNat_natCast,Int.toNat_natCast,h1];exact h2
theorem Kn.setB_eq{B:List (List ByteArray)}{i j:Nat}{l:List ByteArray}(h1:B[i]? =some l)(s:ByteArray):Kn.setB B i j s=B.set i (l.set j s):=by
 unfold Kn.setB;rw[Int.toNat_natCast,Int.toNat_natCast]
 apply List.ext_getElem?
 intro k;rw[List.getElem?_modify,List.getElem?_set]
 by_cases e:i=k
 ·subst e;rw[if_pos rfl,h1,if_pos (List.getElem?_eq_some_iff.1 h1).1]
  simp
 ·rw[if_neg e];simp only[if_neg e];cases B[k]? <;>rfl
namespace Kl
theorem row_at{w:World}{a:KAt}{K:Kn}(h:Knl w a K){i:Nat}{l:List ByteArray}(hl:K.B[i]? =some l):∃bg boff bc ra rc,a.bv=.slice (some ⟨bg,boff,none⟩) K.B.length bc∧a.rows[i]? =some (.slice ra l.length rc)∧w.cell? ⟨bg,boff+i,none⟩=some (.slice ra l.length rc)∧SlV w 9 1 (.slice ra l.length rc) l.length (l.map .string):=by
 have hi:=(List.getElem?_eq_some_iff.1 hl).1;have hi':i<a.rows.length:=by rw[h.len];exact hi
 have hr:a.rows[i]? =some a.rows[i]:=Zg hi';have hin:=h.inner i _ l hr hl;obtain⟨ra,rc,hv⟩:=hin.form;rw[hv] at hr hin;have ho:=h.outer;rcases ho.2 with⟨h0,_⟩|⟨g,off,cap,cur,hb,hg,_⟩
 ·have:=h.len;omega
 ·rw[hb] at ho;exact⟨g,off,cap,ra,rc,by rw[hb,h.len],hr,by rw[ho.cell i (by have:=h.len;omega)];exact hr,hin⟩
theorem len_bd{w:World}{a:KAt}{K:Kn}(h:Knl w a K):K.B.length≤9223372036854775807:=by
 have:=slv_len h.outer;unfold maxLen at this;have:=h.len;omega
section
variable {w:World} {a:KAt} {K:Kn}
theorem find_some(h:Knl w a K){i j:Nat}{l:List ByteArray}{s:ByteArray}(hl:K.B[i]? =some l)(hs:l[j]? =some s)(hi0:i≤4294967295)(hj0:j≤4294967295):
  Calls Tryz.prog 104 #[.pointer (some ⟨a.kb,0,none⟩),.int .u32 i,.int .u32 j] w fun e w'=>∃g off cap,e=.returned (.pointer (some ⟨g,off+j,none⟩))∧w=w'∧a.rows[i]? =some (.slice (some ⟨g,off,none⟩) l.length cap)∧w.cell? ⟨g,off+j,none⟩=some (.string s):=by
 have hn:=len_bd h;obtain⟨bg,boff,bc,ra,rc,hbv,hr,hrc,hin⟩:=row_at h hl;have hi:=(List.getElem?_eq_some_iff.1 hl).1;have hj:=(List.getElem?_eq_some_iff.1 hs).1;obtain⟨g,off,rfl⟩:∃g off,ra=some ⟨g,off,none⟩:=by
  rcases hin.2 with⟨h0,_⟩|⟨g,off,cap,cur,hv,_⟩
  ·omega
  ·simp only[Value.slice.injEq] at hv;exact⟨g,off,hv.1⟩
 have hln:l.length≤9223372036854775807:=by have:=slv_len hin;unfold maxLen at this;omega
 have hcs:w.cell? ⟨g,off+j,none⟩=some (.string s):=by rw[hin.cell j (by omega),List.getElem?_map,hs];rfl
 have hb:=(h.cells).2.2.2.2.1;rw[hbv] at hb;have HR:Hid (a.rows[i]? =some (.slice (some ⟨g,off,none⟩) l.length rc)∧w.cell? ⟨g,off+j,none⟩=some (.string s)):=Lh ⟨hr,hcs⟩;have g1:decide (K.B.length≤i)=false:=decide_eq_false (by omega);have g2:decide (l.length≤j)=false:=decide_eq_false (by omega);generalize K.B.length=n at*;generalize hll:l.length=m at*;clear h hl hs hr hin hbv hcs hll;go_enter func104,ntmps104;go_wp2;go_ret;exact⟨g,off,rc,rfl,rfl,HR.out⟩
theorem find_none(h:Knl w a K){id n:Int}(hb:Kn.block K.B id n=none)(i0:0≤id)(i1:id≤4294967295)(n0:0≤n)(n1:n≤4294967295):
  Calls Tryz.prog 104 #[.pointer (some ⟨a.kb,0,none⟩),.int .u32 id,.int .u32 n] w fun e w'=>e=.returned (.pointer none)∧w=w':=by
 have hn:=len_bd h;obtain⟨i,rfl⟩:=Int.eq_ofNat_of_zero_le i0;obtain⟨j,rfl⟩:=Int.eq_ofNat_of_zero_le n0;have hbv:=(h.cells).2.2.2.2.1
 by_cases hi:i<K.B.length
 ·have hl:K.B[i]? =some K.B[i]:=Zg hi;obtain⟨bg,boff,bc,ra,rc,hbe,hr,hrc,hin⟩:=row_at h hl;have hj:¬j<K.B[i].length:=fun q=>by
   rw[Kn.block_of hl (Zg q)] at hb;cases hb
  rw[hbe] at hbv;have hln:K.B[i].length≤9223372036854775807:=by have:=slv_len hin;unfold maxLen at this;omega
  have g1:decide (K.B.length≤i)=false:=decide_eq_false (by omega);have g2:decide (K.B[i].length≤j)=true:=decide_eq_true (by omega);obtain⟨m,hm⟩:∃m,K.B[i].length=m:=⟨_,rfl⟩;rw[hm] at hrc hln g2;clear h hl hr hin hbe hb hj hm;generalize K.B.length=n at*;go_enter func104,ntmps104;go_wp2;go_ret;exact⟨rfl,rfl⟩
 ·obtain⟨ba,bc,hbe⟩:=h.outer.form;rw[hbe,h.len] at hbv;have g1:decide (K.B.length≤i)=true:=decide_eq_true (by omega);generalize K.B.length=n at*;clear h hbe hb;go_enter func104,ntmps104;go_wp2;go_ret;exact⟨rfl,rfl⟩
def blkS(o:Option ByteArray):ByteArray:=o.getD ByteArray.empty
def blkE(o:Option ByteArray):Int:=match o with|none=>2|some _=>0
theorem block(h:Knl w a K)(id n:Int)(i0:0≤id)(i1:id≤4294967295)(n0:0≤n)(n1:n≤4294967295):
  Calls Tryz.prog 113 #[.pointer (some ⟨a.kb,0,none⟩),.int .u32 id,.int .u32 n] w fun e w'=>e=.returned (.tuple #[.string (blkS (Kn.block K.B id n)),.int .i64 (blkE (Kn.block K.B id n))])∧w=w':=by
 cases hb:Kn.block K.B id n with
 |none=>
  have H:=Lh (find_none h hb i0 i1 n0 n1);clear h hb;go_enter func113,ntmps113;go_wp2_with fail;refine H.out.mono ?_;rintro e w1 ⟨rfl,rfl⟩;go_wp2;go_ret2;exact⟨rfl,rfl⟩
 |some s=>
  obtain⟨i,j,l,rfl,rfl,hl,hs⟩:=Kn.block_some hb;have H:=Lh (find_some h hl hs (by omega) (by omega));clear h hb hl hs;go_enter func113,ntmps113;go_wp2_with fail;refine H.out.mono ?_;rintro e w1 ⟨g,off,cap,rfl,rfl,_,hc⟩;go_wp2;go_ret2;exact⟨rfl,rfl⟩
theorem setBlock(h:Knl w a K)(id n:Int)(s:ByteArray)(i0:0≤id)(i1:id≤4294967295)(n0:0≤n)(n1:n≤4294967295)(hz:s.size≤140737488355328):
  Calls Tryz.prog 27 #[.pointer (some ⟨a.kb,0,none⟩),.int .u32 id,.int .u32 n,.string s] w fun e w'=>e=.returned (.int .i64 (Kn.setE K.B id n s))∧KStep w w' a K a (K.setBlock id n s):=by
 cases hb:Kn.block K.B id n with
 |none=>
  have HE:Hid (Kn.setE K.B id n s=2∧K.setBlock id n s=K):=Lh (by
   have e:Kn.setE K.B id n s=2:=by unfold Kn.setE;rw[hb,if_pos (.inl rfl)]
   exact⟨e,by unfold Kn.setBlock;rw[if_neg (by omega)]⟩)
  have H:=Lh (find_none h hb i0 i1 n0 n1);have HR:=Lh (KStep.refl h);clear h hb;go_enter func27,ntmps27;go_wp2_with fail;refine H.out.mono ?_;rintro e w1 ⟨rfl,rfl⟩;go_wp2;go_ret;exact⟨by rw[HE.out.1];rfl,by rw[HE.out.2];exact HR.out⟩
 |some t=>
  obtain⟨i,j,l,rfl,rfl,hl,ht⟩:=Kn.block_some hb;have H:=Lh (find_some h hl ht (by omega) (by omega))
  by_cases hs:s.size=64
  ·have hj:=(List.getElem?_eq_some_iff.1 ht).1;have HE:Hid (Kn.setE K.B i j s=0∧K.setBlock i j s= { K with B:=K.B.set i (l.set j s) }):=Lh (by
    have e:Kn.setE K.B i j s=0:=by unfold Kn.setE;rw[hb,if_neg (by simp[hs])]
    exact⟨e,by unfold Kn.setBlock;rw[if_pos e,Kn.setB_eq hl]⟩)
   have HS:=Lh fun v (hv:a.rows[i]? =some v)=>KStep.setBlk h hv hl hj s hs
   have hsz:((s.size:Int) != 64)=false:=by rw[hs];rfl
   clear h hb hl ht hs;go_enter func27,ntmps27;go_wp2_with fail;refine H.out.mono ?_;rintro e w1 ⟨g,off,cap,rfl,rfl,hr,hc⟩;obtain⟨g',off',⟨cap',e'⟩,_,hf,hk⟩:=HS.out _ hr;simp only[Value.slice.injEq,Option.some.injEq,Addr.mk.injEq,and_true] at e';obtain⟨⟨rfl,rfl⟩,_⟩:=e';have HK:=Lh hk;clear hr hk;go_wp2;go_ret;exact⟨by rw[HE.out.1];rfl,by rw[HE.out.2];exact HK.out⟩
  ·have HE:Hid (Kn.setE K.B i j s=2∧K.setBlock i j s=K):=Lh (by
    have e:Kn.setE K.B i j s=2:=by unfold Kn.setE;rw[if_pos (.inr hs)]
    exact⟨e,by unfold Kn.setBlock;rw[if_neg (by omega)]⟩)
   have hsz:((s.size:Int) != 64)=true:=bne_iff_ne.2 (by omega);have HR:=Lh (KStep.refl h);clear h hb hl ht hs;go_enter func27,ntmps27;go_wp2_with fail;refine H.out.mono ?_;rintro e w1 ⟨g,off,cap,rfl,rfl,hr,hc⟩;clear hr;go_wp2;go_ret;exact⟨by rw[HE.out.1];rfl,by rw[HE.out.2];exact HR.out⟩
theorem setBlock_now(K:Kn)(id n:Int)(s:ByteArray):(K.setBlock id n s).now=K.now:=by unfold Kn.setBlock;split<;>rfl
theorem now(h:Knl w a K):Calls Tryz.prog 114 #[.pointer (some ⟨a.kb,0,none⟩)] w fun e w'=>e=.returned (.int .u32 K.now)∧w=w':=by
 obtain⟨_,_,_,_,_,c5⟩:=h.cells;clear h;go_enter func114,ntmps114;go_wp2;go_ret;exact⟨rfl,rfl⟩
theorem caps(h:Knl w a K):Calls Tryz.prog 25 #[.pointer (some ⟨a.kb,0,none⟩)] w fun e w'=>e=.returned (.pointer (some ⟨a.c.cb,0,none⟩))∧w=w':=by
 obtain⟨_,_,c2,_,_,_⟩:=h.cells;clear h;go_enter func25,ntmps25;go_wp2;go_ret;exact⟨rfl,rfl⟩
theorem nic(h:Knl w a K):Calls Tryz.prog 12 #[.pointer (some ⟨a.kb,0,none⟩)] w fun e w'=>e=.returned (.pointer (some ⟨a.nb,0,none⟩))∧w=w':=by
 obtain⟨_,_,_,c3,_,_⟩:=h.cells;clear h;go_enter func12,ntmps12;go_wp2;go_ret;exact⟨rfl,rfl⟩
end
end Kl
open Go.RowKit Word
namespace Cp
open Kp (Ok)
theorem rg_putG{r:List Int}(d:Nat)(v:Int)(i:Nat)(h:i≠d):rg (putG r d v) i=rg r i:=by
 unfold putG
 split
 ·rfl
 ·unfold rg;rw[Int.toNat_natCast,Int.toNat_natCast,List.getD,List.getElem?_set_ne (by omega)];rfl
end Cp
open Go.RowKit Word
namespace Wi
def gm(g:Option Gr):Option Mn:=g.map (·.m)
theorem gm_take(g:Option Gr):gm (Gp.take g)=gm g:=by
 cases g with
 |none=>rfl
 |some G=>unfold Gp.take;simp only;split<;>rfl
theorem gm_give(g:Option Gr):gm (Gp.give g)=gm g:=by
 cases g with
 |none=>rfl
 |some G=>unfold Gp.give;simp only;split<;>rfl
theorem gm_upd{G:Int→Option Gr}{n:Int}{g:Option Gr}(h:gm g=gm (G n))(k:Int):gm (Gp.upd G n g k)=gm (G k):=by
 unfold Gp.upd
 split
 ·rename_i e;rw[h,e]
 ·rfl
theorem block_gm{g g':Option Gr}(h:gm g=gm g')(id n:Int):Gp.hasBlock g id n=Gp.hasBlock g' id n:=by
 cases g<;>cases g'<;>simp[gm] at h
 ·rfl
 ·unfold Gp.hasBlock;simp only[h]
theorem port_gm{g g':Option Gr}(h:gm g=gm g')(p:Int):Gp.hasPort g p=Gp.hasPort g' p:=by
 cases g<;>cases g'<;>simp[gm] at h
 ·rfl
 ·unfold Gp.hasPort;simp only[h]
theorem con_gm{g g':Option Gr}(h:gm g=gm g'):Gp.con g=Gp.con g':=by
 cases g<;>cases g'<;>simp[gm] at h
 ·rfl
 ·unfold Gp.con;simp only[h]
def Pgs(A A':List Pg)(own:List Int):Prop:=
 ∀p,p∈A→(∃p',atAddr A' p.addr=some p'∧p'.perm=p.perm∧(p'.bytes=p.bytes∨bits .and .u8 p.perm 2=2))∨(atAddr A' p.addr=none∧p.addr∈own)
theorem at_self{A:List Pg}(h:Kp.Ok A){p:Pg}(hp:p∈A):atAddr A p.addr=some p:=atAddr_eq_some h.up hp
theorem pgs_refl{A:List Pg}(h:Kp.Ok A)(own:List Int):Pgs A A own:=fun p hp=>.inl ⟨p,at_self h hp,rfl,.inl rfl⟩
theorem set_page{A:List Pg}(x v:Int){p:Pg}(hp:p∈A):setPg x v p∈setByte A x v:=List.mem_map.2 ⟨p,hp,rfl⟩
theorem putN_page(A:List Pg)(x:Int)(xs:List Int){p:Pg}(hup:A.Pairwise fun p q=>p.addr<q.addr)(hp:p∈A):∀n,(∀k:Nat,k<n→Sp.okAt A 2 (x+k)=true)→
  ∃p',p'∈putN A x xs n∧p'.addr=p.addr∧p'.perm=p.perm∧(p'.bytes=p.bytes∨bits .and .u8 p.perm 2=2)
 |0,_=>⟨p,hp,rfl,rfl,.inl rfl⟩
 |n+1,h=>by
  obtain⟨q,hq,q1,q2,q3⟩:=putN_page A x xs hup hp n fun k hk=>h k (by omega)
  refine⟨setPg (x+n) (xs.getD n 0) q,set_page _ _ hq,(setPg_addr _ _ q).trans q1,(setPg_perm _ _ q).trans q2, ?_⟩
  by_cases g:q.addr == (x+n) - (x+n) % 256
  ·right
   have hk:=h n (by omega);unfold Sp.okAt at hk;have e:pageAt A (x+n)=some p:=by
    unfold pageAt;rw[←beq_iff_eq.1 g,q1];exact atAddr_eq_some hup hp
   rw[e] at hk;exact beq_iff_eq.1 hk
  ·have e:setPg (x+n) (xs.getD n 0) q=q:=by unfold setPg;rw[if_neg g]
   rw[e];exact q3
theorem atAddr_of{A:List Pg}{p:Pg}{x:Int}(hup:A.Pairwise fun p q=>p.addr<q.addr)(hp:p∈A)(hx:p.addr=x):atAddr A x=some p:=hx▸atAddr_eq_some hup hp
theorem up_of_addrs{A B:List Pg}(h:A.map Pg.addr=B.map Pg.addr)(hB:B.Pairwise fun p q=>p.addr<q.addr):A.Pairwise fun p q=>p.addr<q.addr:=by
 have h1:(B.map Pg.addr).Pairwise (·<·):=List.pairwise_map.2 hB;rw[←h] at h1;exact List.pairwise_map.1 h1
theorem pgs_put{A:List Pg}(h:Kp.Ok A)(x:Int)(s:ByteArray)(own:List Int):Pgs A (Sp.putA A x 2 s) own:=fun p hp=>by
 have hup:=up_of_addrs (putA_addrs A x 2 s) h.up;unfold Sp.putA at hup⊢
 by_cases hf:Sp.fitsB A x s.size 2=true
 ·rw[if_pos hf] at hup⊢;obtain⟨p',h1,h2,h3,h4⟩:=putN_page A x (nums s) h.up hp s.size fun k hk=>by
   unfold Sp.fitsB at hf;exact List.all_eq_true.1 hf k (List.mem_range.2 hk)
  exact .inl ⟨p',atAddr_of hup h1 h2,h3,h4⟩
 ·rw[if_neg hf];exact .inl ⟨p,at_self h hp,rfl,.inl rfl⟩
theorem pgs_map{A:List Pg}(h:Kp.Ok A)(x:Int)(b:Nat)(pm:Int)(own:List Int):Pgs A (Sp.mapA A x b pm) own:=fun p hp=>by
 refine .inl ⟨p, ?_,rfl,.inl rfl⟩;unfold Sp.mapA
 by_cases hm:Sp.mapE A x pm=0
 ·rw[if_pos hm];have hx:Sp.mayB x=true:=by
   unfold Sp.mapE at hm;cases e:Sp.mayB x with
   |true=>rfl
   |false=>rw[if_pos (.inl e)] at hm;omega
  have hne:atAddr A x=none:=by
   unfold Sp.mapE at hm
   by_cases q:Sp.mayB x=false∨7<pm
   ·rw[if_pos q] at hm;omega
   ·rw[if_neg q] at hm;have e:pageAt A x=atAddr A x:=by
     unfold pageAt;have:x % 256=0:=by unfold Sp.mayB at hx;simp at hx;omega
     rw[this,Int.sub_zero]
    rw[e] at hm;cases hq:atAddr A x with
    |none=>rfl
    |some q=>rw[hq] at hm;simp at hm
  exact atAddr_eq_some (up_insPg h.up (atAddr_none hne)) (mem_insPg.2 (.inr hp))
 ·rw[if_neg hm];exact at_self h hp
theorem pgs_unmap{A:List Pg}(h:Kp.Ok A)(x:Int)(own:List Int)(hx:x∈own):Pgs A (Sp.unmapA A x) own:=fun p hp=>by
 unfold Sp.unmapA
 by_cases hm:Sp.unmapE A x=0
 ·rw[if_pos hm,atAddr_del]
  by_cases e:p.addr=x
  ·rw[if_pos e];exact .inr ⟨rfl,e▸hx⟩
  ·rw[if_neg e];exact .inl ⟨p,at_self h hp,rfl,.inl rfl⟩
 ·rw[if_neg hm];exact .inl ⟨p,at_self h hp,rfl,.inl rfl⟩
def took(g:Option Gr):Int:=match g with|none=>0|some G=>G.took
structure Fine(K:Kn)(E:En)(K':Kn)(E':En):Prop where
 num:E'.num=E.num
 g:∀n,gm (K'.g n)=gm (K.g n)
 b:∀id n,Kn.block K'.B id n=Kn.block K.B id n∨Gp.hasBlock (K.g E.num) id n=true
 q:∀p,(K'.N.q p).length=(K.N.q p).length∨Gp.hasPort (K.g E.num) p=true
 pc:E'.pc=E.pc
 r:∀i,3≤i→E'.arg i=E.arg i
 pg:Pgs E.A E'.A E.own
 cnt:(E'.A.length:Int) - E.A.length=(E'.own.length:Int) - E.own.length
 own:(E'.own.length:Int)=took (K'.g E.num)
 s:K'.N.sent=K.N.sent∨∃t,K'.N.sent=K.N.sent++[t]∧Ni.portB t=true∧Gp.hasPort (K.g E.num) (Ni.portV t 20)=true
 t:E'.text=E.text∨Gp.con (K.g E.num)=true
 hx:K'.hx=K.hx
structure Inv(K:Kn)(E:En):Prop where
 own:(E.own.length:Int)=took (K.g E.num)
 A:Kp.Ok E.A
 ok:E.Ok
 g:∀n,Gp.gok (K.g n)
theorem fine_refl{K:Kn}{E:En}(h:Inv K E):Fine K E K E:=
 ⟨rfl,fun _=>rfl,fun _ _=>.inl rfl,fun _=>.inl rfl,rfl,fun _ _=>rfl,pgs_refl h.A _,by omega,h.own,.inl rfl,.inl rfl,rfl⟩
theorem took_take{g:Option Gr}(h:Gp.takeE g=0):took (Gp.take g)=took g+1:=by
 cases g with
 |none=>have h:(3:Int)=0:=h;omega
 |some G=>
  unfold Gp.takeE at h;unfold Gp.take;simp only at h⊢
  split
  ·rename_i q;rw[if_pos q] at h;omega
  ·rfl
theorem took_give{g:Option Gr}(h:took g≠0):took (Gp.give g)=took g - 1:=by
 cases g with
 |none=>exact absurd rfl h
 |some G=>
  unfold Gp.give;simp only
  split
  ·rename_i q;exact absurd q h
  ·rfl
theorem len_mapA{A:List Pg}{x:Int}{b:Nat}{pm:Int}(h:Sp.mapE A x pm=0):(Sp.mapA A x b pm).length=A.length+1:=by
 unfold Sp.mapA;rw[if_pos h,length_insPg]
theorem len_ins(x:Int):∀l:List Int,(En.ins x l).length=l.length+1
 | []=>rfl
 |y::l=>by unfold En.ins;split<;>simp[len_ins x l]
theorem filter_len{l:List Int}{x:Int}(hup:l.Pairwise (·<·))(hx:x∈l):(l.filter fun y=>y != x).length+1=l.length:=by
 induction l with
 |nil=>cases hx
 |cons y l ih=>
  obtain⟨h1,h2⟩:=List.pairwise_cons.1 hup
  by_cases e:y=x
  ·have:l.filter (fun y=>y != x)=l:=List.filter_eq_self.2 fun z hz=>by have:=h1 z hz;simp;omega
   rw[List.filter_cons_of_neg (by simp[e]),this,List.length_cons]
  ·have hm:x∈l:=by
    rcases List.mem_cons.1 hx with g|g
    ·exact absurd g.symm e
    ·exact g
   have:=ih h2 hm;rw[List.filter_cons_of_pos (by simpa using e),List.length_cons,List.length_cons];omega
theorem fine_no{K:Kn}{E:En}(h:Inv K E)(y:Int):Fine K E (Co.no K E y).K (Co.no K E y).E:=fine_refl h
theorem pageE_zero{E:En}{x:Int}(hk:E.kind=2)(h:¬(Sp.permB E.A x=true∨En.mayP x=false)):E.pageE x=0∧Sp.mapE E.A x 3=0:=by
 have h1:En.mayP x=true:=by
  cases e:En.mayP x with
  |true=>rfl
  |false=>exact absurd (.inr e) h
 have hm:=En.mayP_iff.1 h1;have h2:Sp.mapE E.A x 3=0:=by
  unfold Sp.mapE;have hb:Sp.mayB x=true:=by unfold Sp.mayB;simp;omega
  rw[if_neg (by rw[hb];simp)];have:(pageAt E.A x).isSome=false:=by
   cases e:(pageAt E.A x).isSome with
   |false=>rfl
   |true=>exact absurd (.inl e) h
  rw[this];rfl
 have h3:E.mayE x=0:=by unfold En.mayE;rw[if_neg (by omega),if_neg (by rw[h1];simp)]
 refine⟨?_,h2⟩;unfold En.pageE;rw[if_neg (by omega),h2]
theorem fine_page{K:Kn}{E:En}(h:Inv K E)(hk:E.kind=2)(b:Nat)(x:Int):Fine K E (Co.page K E b x).K (Co.page K E b x).E:=by
 unfold Co.page
 split
 ·exact fine_no h _
 ·rename_i h1
  split
  ·exact fine_no h _
  ·rename_i h2
   obtain⟨h3,h4⟩:=pageE_zero hk h1;have h5:Gp.takeE (K.g E.num)=0:=by omega
   have e:E.page x b= { E with A:=Sp.mapA E.A x b 3,own:=En.ins x E.own }:=by unfold En.page;rw[if_neg (by omega)]
   show Fine K E { K with g:=Gp.upd K.g E.num (Gp.take (K.g E.num)) } (E.page x b)
   rw[e];refine⟨rfl,fun n=>gm_upd (gm_take _) n,fun _ _=>.inl rfl,fun _=>.inl rfl,rfl,fun _ _=>rfl,pgs_map h.A x b 3 _, ?_, ?_,.inl rfl,.inl rfl,rfl⟩
   ·show((Sp.mapA E.A x b 3).length:Int) - E.A.length=((En.ins x E.own).length:Int) - E.own.length
    rw[len_mapA h4,len_ins];omega
   ·show((En.ins x E.own).length:Int)=took (Gp.upd K.g E.num (Gp.take (K.g E.num)) E.num)
    rw[Gp.upd_at,took_take h5,len_ins,←h.own];omega
theorem fine_drop{K:Kn}{E:En}(h:Inv K E)(x:Int):Fine K E (Co.drop K E x).K (Co.drop K E x).E:=by
 unfold Co.drop
 split
 ·exact fine_no h _
 ·split
  ·rename_i h1
   show Fine K E { K with g:=Gp.upd K.g E.num (Gp.give (K.g E.num)) } (E.drop x)
   unfold En.dropE at h1
   by_cases q:E.mayE x≠0
   ·rw[if_pos q] at h1;omega
   ·rw[if_neg q] at h1
    by_cases q2:x∈E.own
    ·rw[if_pos q2] at h1;have e:E.drop x= { E with A:=Sp.unmapA E.A x,own:=E.own.filter (fun y=>y != x) }:=by unfold En.drop;rw[if_neg q,if_pos q2]
     rw[e];have hl:=filter_len h.ok.up q2;have hlA:(Sp.unmapA E.A x).length+1=E.A.length:=by
      unfold Sp.unmapA;rw[if_pos h1];obtain⟨p,hp⟩:=Option.isSome_iff_exists.1 (h.ok.has x q2);exact len_delPg h.A.up hp
     refine⟨rfl,fun n=>gm_upd (gm_give _) n,fun _ _=>.inl rfl,fun _=>.inl rfl,rfl,fun _ _=>rfl,pgs_unmap h.A x _ q2, ?_, ?_,.inl rfl,.inl rfl,rfl⟩
     ·show((Sp.unmapA E.A x).length:Int) - E.A.length=((E.own.filter fun y=>y != x).length:Int) - E.own.length
      omega
     ·show((E.own.filter fun y=>y != x).length:Int)=took (Gp.upd K.g E.num (Gp.give (K.g E.num)) E.num)
      rw[Gp.upd_at,took_give (by rw[←h.own];omega),←h.own];omega
    ·rw[if_neg q2] at h1;omega
  ·exact fine_no h _
theorem fine_A{K:Kn}{E:En}(h:Inv K E)(x:Int)(s:ByteArray)(hs:Sp.fitsE E.A x s.size 2=0):Fine K E K { E with A:=Sp.putA E.A x 2 s }:=by
 refine⟨rfl,fun _=>rfl,fun _ _=>.inl rfl,fun _=>.inl rfl,rfl,fun _ _=>rfl,pgs_put h.A x s _, ?_,h.own,.inl rfl,.inl rfl,rfl⟩;have:=congrArg List.length (putA_addrs E.A x 2 s);rw[List.length_map,List.length_map] at this
 show((Sp.putA E.A x 2 s).length:Int) - _=_
 rw[this]
 show _=(E.own.length:Int) - E.own.length
 omega
theorem fine_read{K:Kn}{E:En}(h:Inv K E)(id n x:Int):Fine K E (Co.read K E id n x).K (Co.read K E id n x).E:=by
 unfold Co.read
 split
 ·exact fine_no h _
 ·simp only
  split
  ·exact fine_no h _
  ·rename_i q
   exact fine_A h x _ (by omega)
theorem setB_other{B:List (List ByteArray)}{id n:Int}{s:ByteArray}{i j:Int}(i0:0≤id)(n0:0≤n)(h:¬(i=id∧j=n)):Kn.block (Kn.setB B id n s) i j=Kn.block B i j:=by
 unfold Kn.block Kn.setB
 by_cases hc:0≤i∧0≤j
 ·rw[if_pos hc,if_pos hc,List.getElem?_modify]
  by_cases e:id.toNat=i.toNat
  ·rw[←e];cases hb:B[id.toNat]? with
   |none=>rfl
   |some l=>
    simp only[if_pos,Option.map_eq_map,Option.map_some,Option.bind_some];have hn:n.toNat≠j.toNat:=fun g=>h ⟨by omega,by omega⟩
    rw[List.getElem?_set_ne hn]
  ·simp only[if_neg e];cases B[i.toNat]? <;>rfl
 ·rw[if_neg hc,if_neg hc]
theorem fine_write{K:Kn}{E:En}(h:Inv K E)(id n x:Int)(i0:0≤id)(n0:0≤n):Fine K E (Co.write K E id n x).K (Co.write K E id n x).E:=by
 unfold Co.write
 split
 ·exact fine_no h _
 ·rename_i hb
  have hb':Gp.hasBlock (K.g E.num) id n=true:=by
   cases e:Gp.hasBlock (K.g E.num) id n with
   |true=>rfl
   |false=>exact absurd e hb
  split
  ·exact fine_no h _
  ·rename_i s hs
   show Fine K E (K.setBlock id n s) E
   unfold Kn.setBlock
   split
   ·refine⟨rfl,fun _=>rfl,fun i j=> ?_,fun _=>.inl rfl,rfl,fun _ _=>rfl,pgs_refl h.A _,by omega,h.own,.inl rfl,.inl rfl,rfl⟩
    by_cases e:i=id∧j=n
    ·exact .inr (by rw[e.1,e.2];exact hb')
    ·exact .inl (setB_other i0 n0 e)
   ·exact fine_refl h
theorem fine_send{K:Kn}{E:En}(h:Inv K E)(x n:Int):Fine K E (Co.send K E x n).K (Co.send K E x n).E:=by
 unfold Co.send
 split
 ·exact fine_no h _
 ·split
  ·exact fine_no h _
  ·split
   ·exact fine_no h _
   ·rename_i s hs
    split
    ·exact fine_no h _
    ·rename_i hp
     show Fine K E { K with N:=Ni.sendS K.N s } E
     unfold Ni.sendS;have h1:Ni.portB s=true:=by
      cases e:Ni.portB s with
      |true=>rfl
      |false=>exact absurd (.inl e) hp
     have h2:Gp.hasPort (K.g E.num) (Ni.portV s 20)=true:=by
      cases e:Gp.hasPort (K.g E.num) (Ni.portV s 20) with
      |true=>rfl
      |false=>exact absurd (.inr e) hp
     split
     ·exact⟨rfl,fun _=>rfl,fun _ _=>.inl rfl,fun _=>.inl rfl,rfl,fun _ _=>rfl,pgs_refl h.A _,by omega,h.own,.inr ⟨s,rfl,h1,h2⟩,.inl rfl,rfl⟩
     ·exact fine_refl h
theorem fine_recv{K:Kn}{E:En}(h:Inv K E)(p x m:Int):Fine K E (Co.recv K E p x m).K (Co.recv K E p x m).E:=by
 unfold Co.recv
 split
 ·exact fine_no h _
 ·rename_i hp
  have h2:Gp.hasPort (K.g E.num) p=true:=by
   cases e:Gp.hasPort (K.g E.num) p with
   |true=>rfl
   |false=>exact absurd (.inr e) hp
  split
  ·exact fine_no h _
  ·rename_i s r hq
   split
   ·exact fine_no h _
   ·split
    ·exact fine_no h _
    ·rename_i hf
     have hA:=fine_A h x s (by omega)
     show Fine K E { K with N:=Ni.popS K.N p } { E with A:=Sp.putA E.A x 2 s }
     refine⟨hA.num,fun _=>rfl,fun _ _=>.inl rfl,fun y=> ?_,hA.pc,hA.r,hA.pg,hA.cnt,hA.own, ?_,hA.t,rfl⟩
     ·by_cases e:y=p
      ·exact .inr (e▸h2)
      ·left
       show((Ni.popS K.N p).q y).length=_
       unfold Ni.popS
       split
       ·rfl
       ·show(Ni.updQ K.N.q p _ y).length=_
        rw[Ni.updQ_other _ _ _ e]
     ·left
      show(Ni.popS K.N p).sent=_
      unfold Ni.popS
      split<;>rfl
theorem fine_put{K:Kn}{E:En}(h:Inv K E)(x n:Int):Fine K E (Co.put K E x n).K (Co.put K E x n).E:=by
 unfold Co.put
 split
 ·exact fine_no h _
 ·rename_i hc
  have hc':Gp.con (K.g E.num)=true:=by
   cases e:Gp.con (K.g E.num) with
   |true=>rfl
   |false=>exact absurd e hc
  split
  ·exact fine_no h _
  ·split
   ·exact fine_no h _
   ·rename_i s hs
    split
    ·exact fine_no h _
    ·show Fine K E K (E.put s)
     unfold En.put
     split
     ·exact fine_refl h
     ·exact⟨rfl,fun _=>rfl,fun _ _=>.inl rfl,fun _=>.inl rfl,rfl,fun _ _=>rfl,pgs_refl h.A _,by show(E.A.length:Int) - E.A.length=(E.own.length:Int) - E.own.length;omega,h.own,.inl rfl,.inr hc',rfl⟩
theorem fine_call{K:Kn}{E:En}(h:Inv K E)(hk:E.kind=2)(b:Nat)(num:Int)(ha:∀i,0≤E.arg i):Fine K E (Co.call K E b num).K (Co.call K E b num).E:=by
 unfold Co.call
 repeat' split
 ·exact fine_no h _
 ·exact fine_page h hk _ _
 ·exact fine_drop h _
 ·exact fine_read h _ _ _
 ·exact fine_write h _ _ _ (ha _) (ha _)
 ·exact fine_send h _ _
 ·exact fine_recv h _ _ _
 ·exact fine_put h _ _
 ·exact fine_refl h
 ·exact fine_no h _
theorem arg_answer(E:En)(v y:Int){i:Int}(hi:3≤i):(E.answer v y).arg i=E.arg i:=by
 unfold En.arg En.answer
 by_cases g:0≤i∧i<16
 ·rw[if_pos g,if_pos g];obtain⟨k,rfl⟩:=Int.eq_ofNat_of_zero_le g.1
  show Cp.rg (Cp.putG (Cp.putG E.r 1 v) 2 y) (k:Int)=_
  have:=Cp.rg_putG (r:=Cp.putG E.r 1 v) 2 y k (by omega);rw[show((2:Nat):Int)=2 from rfl] at this;rw[this];have:=Cp.rg_putG (r:=E.r) 1 v k (by omega);rw[show((1:Nat):Int)=1 from rfl] at this;rw[this]
 ·rw[if_neg g,if_neg g]
theorem fine_answer{K K':Kn}{E E':En}(h:Fine K E K' E')(v y:Int):Fine K E K' (E'.answer v y):=
 ⟨h.num,h.g,h.b,h.q,h.pc,fun i hi=>(arg_answer E' v y hi).trans (h.r i hi),h.pg,h.cnt,h.own,h.s,h.t,h.hx⟩
theorem fine_exit{K:Kn}{E:En}(h:Inv K E)(c:Int):Fine K E K (E.exit c):=by
 unfold En.exit
 split
 ·exact fine_refl h
 ·exact⟨rfl,fun _=>rfl,fun _ _=>.inl rfl,fun _=>.inl rfl,rfl,fun _ _=>rfl,pgs_refl h.A _,by show(E.A.length:Int) - _=(E.own.length:Int) - _;omega,h.own,.inl rfl,.inl rfl,rfl⟩
theorem fine{K:Kn}{E:En}(h:Inv K E)(hk:E.kind=2)(b:Nat)(num:Int)(ha:∀i,0≤E.arg i):Fine K E (Co.doK K E b num) (Co.doE K E b num):=by
 unfold Co.doK Co.doE
 split
 ·exact fine_exit h _
 ·exact fine_answer (fine_call h hk b num ha) _ _
theorem refused{K:Kn}{E:En}(b:Nat)(num:Int)(hy:(Co.call K E b num).y≠0):Co.call K E b num=Co.no K E (Co.call K E b num).y:=by
 revert hy
 unfold Co.call
 repeat' split
 ·intro h;rfl
 ·unfold Co.page
  repeat' split
  all_goals first|(intro _;rfl)|(intro h;exact absurd rfl h)
 ·unfold Co.drop
  repeat' split
  all_goals first|(intro _;rfl)|(intro h;exact absurd rfl h)
 ·unfold Co.read
  split
  ·intro _;rfl
  ·simp only
   split
   ·intro _;rfl
   ·intro h;exact absurd rfl h
 ·unfold Co.write
  repeat' split
  all_goals first|(intro _;rfl)|(intro h;exact absurd rfl h)
 ·unfold Co.send
  repeat' split
  all_goals first|(intro _;rfl)|(intro h;exact absurd rfl h)
 ·unfold Co.recv
  repeat' split
  all_goals first|(intro _;rfl)|(intro h;exact absurd rfl h)
 ·unfold Co.put
  repeat' split
  all_goals first|(intro _;rfl)|(intro h;exact absurd rfl h)
 ·intro h;exact absurd rfl h
 ·intro _;rfl
theorem z2:¬((0:Int)=2):=by decide
theorem z1:¬((0:Int)=1):=by decide
theorem y2:¬((2:Int)=1):=by decide
theorem seen_send{K:Kn}{E:En}(b:Nat)(num:Int)(h:(Co.call K E b num).ev=2):Ni.portB (Co.call K E b num).s=true∧Gp.hasPort (K.g E.num) (Ni.portV (Co.call K E b num).s 20)=true:=by
 revert h
 unfold Co.call
 repeat' split
 all_goals try (intro h;exact absurd h z2)
 ·unfold Co.page;repeat' split
  all_goals (intro h;exact absurd h z2)
 ·unfold Co.drop;repeat' split
  all_goals (intro h;exact absurd h z2)
 ·unfold Co.read
  split
  ·intro h;exact absurd h z2
  ·simp only
   split
   all_goals (intro h;exact absurd h z2)
 ·unfold Co.write
  split
  ·intro h;exact absurd h z2
  ·split
   all_goals (intro h;exact absurd h z2)
 ·unfold Co.send
  split
  ·intro h;exact absurd h z2
  ·split
   ·intro h;exact absurd h z2
   ·split
    ·intro h;exact absurd h z2
    ·split
     ·intro h;exact absurd h z2
     ·rename_i hp
      intro _;refine⟨?_, ?_⟩
      ·show Ni.portB _=true
       revert hp
       generalize Ni.portB _=c;cases c<;>simp
      ·revert hp
       show¬(_∨Gp.hasPort _ _=false)→Gp.hasPort _ _=true
       generalize Gp.hasPort _ _=c;cases c<;>simp
 ·unfold Co.recv;repeat' split
  all_goals (intro h;exact absurd h z2)
 ·unfold Co.put
  split
  ·intro h;exact absurd h z2
  ·split
   ·intro h;exact absurd h z2
   ·split
    ·intro h;exact absurd h z2
    ·split
     ·intro h;exact absurd h z2
     ·intro h
      exfalso
      revert h
      show(if _ then(0:Int) else 1)=2→False
      split<;>decide
theorem seen_put{K:Kn}{E:En}(b:Nat)(num:Int)(h:(Co.call K E b num).ev=1):Gp.con (K.g E.num)=true∧(Co.call K E b num).s.size≠0:=by
 revert h
 unfold Co.call
 repeat' split
 all_goals try (intro h;first|exact absurd h z1|exact absurd h y2)
 ·unfold Co.page;repeat' split
  all_goals (intro h;first|exact absurd h z1|exact absurd h y2)
 ·unfold Co.drop;repeat' split
  all_goals (intro h;first|exact absurd h z1|exact absurd h y2)
 ·unfold Co.read
  split
  ·intro h;first|exact absurd h z1|exact absurd h y2
  ·simp only
   split
   all_goals (intro h;first|exact absurd h z1|exact absurd h y2)
 ·unfold Co.write
  split
  ·intro h;first|exact absurd h z1|exact absurd h y2
  ·split
   all_goals (intro h;first|exact absurd h z1|exact absurd h y2)
 ·unfold Co.send;repeat' split
  all_goals (intro h;first|exact absurd h z1|exact absurd h y2)
 ·unfold Co.recv;repeat' split
  all_goals (intro h;first|exact absurd h z1|exact absurd h y2)
 ·unfold Co.put
  split
  ·intro h;first|exact absurd h z1|exact absurd h y2
  ·rename_i hc
   split
   ·intro h;first|exact absurd h z1|exact absurd h y2
   ·split
    ·intro h;first|exact absurd h z1|exact absurd h y2
    ·rename_i s hs
     split
     ·intro h;first|exact absurd h z1|exact absurd h y2
     ·intro h;refine⟨by revert hc;generalize Gp.con _=c;cases c<;>simp, ?_⟩
      show s.size≠0
      have hn:E.arg 2≠0:=fun e=>by
       have h:(if E.arg 2=0 then(0:Int) else 1)=1:=h;rw[if_pos e] at h;omega
      unfold Kn.bytes at hs
      split at hs
      ·rename_i hg
       cases hs;unfold Sp.getE at hg;unfold Sp.getS
       by_cases q:E.arg 2<0∨1048576<E.arg 2
       ·rw[if_pos q] at hg;omega
       ·rw[if_neg q] at hg⊢;unfold Sp.fitsE at hg
        split at hg
        ·rename_i q2
         rw[if_pos q2,strOfNums_size,Sp.getL_length];omega
        ·omega
      ·cases hs
theorem ev_kinds{K:Kn}{E:En}(b:Nat)(num:Int):(Co.call K E b num).ev=0∨(Co.call K E b num).ev=1∨(Co.call K E b num).ev=2:=by
 unfold Co.call
 repeat' split
 all_goals try exact .inl rfl
 ·unfold Co.page;repeat' split
  all_goals exact .inl rfl
 ·unfold Co.drop;repeat' split
  all_goals exact .inl rfl
 ·unfold Co.read
  split
  ·exact .inl rfl
  ·simp only;split<;>exact .inl rfl
 ·unfold Co.write
  split
  ·exact .inl rfl
  ·split<;>exact .inl rfl
 ·unfold Co.send;repeat' split
  all_goals first|exact .inl rfl|exact .inr (.inr rfl)
 ·unfold Co.recv;repeat' split
  all_goals exact .inl rfl
 ·unfold Co.put
  split
  ·exact .inl rfl
  ·split
   ·exact .inl rfl
   ·split
    ·exact .inl rfl
    ·split
     ·exact .inl rfl
     ·show(if _ then(0:Int) else 1)=0∨_∨_
      split
      ·exact .inl rfl
      ·exact .inr (.inl rfl)
end Wi
end Go.Proofs.YtjjdjpdmgaipeaaGreat
