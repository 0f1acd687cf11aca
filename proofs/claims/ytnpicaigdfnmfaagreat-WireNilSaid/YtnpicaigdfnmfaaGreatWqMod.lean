/- Mod, SpcW, Cor, Env, ExoW, EnvN, Renv, NicD, KnG, TskG, KdoG, KnewG, XoA, PbL, PbM, WrA, WrB, WrC, WrD, WrE, WrF, WrH, WrI, WrJ, WrK, WrG, WrL, WrM, WrN, WrNil in one text. -/
import Derived.Test.YtnpicaigdfnmfaaGreatPnXoG
import Derived.WalkKit
import Derived.RowKit3
import Derived.Lib.Hide
import Derived.Laws.BytesArg
import Derived.Laws.IdiomStrings
import Derived.Laws.BitsAllLaws
import Derived.Laws.Bits64
import Derived.Laws.OwnMore
import Derived.OwnWalk
import Derived.WalkSmall
import Derived.Lib.IndexBytes
import Derived.Maps.RangeWalk
import Derived.Laws.Rows
import Derived.Test.YtnpicaigdfnmfaaGreatProg
import Derived.LoopTactic
import Derived.WalkSpells
import Derived.WalkLawsBesides
import Derived.Outline
import Derived.Maps.OwnSet
import Derived.ArgAppend
import Derived.Deep.AppendLies
import Derived.RangeFuncBox
import Derived.Deep.RegionLaw
import Derived.Deep.QuietTactic
import Derived.BigQuiet
import Derived.RangeFuncLeaves
import Derived.RangeFuncBound
import Derived.Shelf.Abstract
import Derived.OwnWalkIn
import Derived.TacticsInMore
import Derived.RegionIn
import Derived.LoopNIn
import Derived.LoopIn
import Derived.Maps.AppendAt
import Derived.Sort.MapsRangeIn
import Derived.Sort.Row
import Derived.Sort.LotA
import Derived.Sort.LotB
import Derived.Sort.LotC
import Derived.Sort.LotD3
import Derived.BigGuard
import Derived.BigCall
import Derived.CellFam
import Derived.Deep.Draws
import Derived.RegionTactic
import Derived.Deep.DeepCutAuto
import Derived.Sort.LotD1
import Derived.Lib.BitFns
import Derived.Lib.Strings
import Derived.Deep.RegionHeld3
import Derived.Deep.MidRow
import Derived.Lib.SliceRun
import Derived.Shelf.RegionOpenPlain
import Derived.Laws.IdiomCopy
import Derived.Lib.AppendZeros
import Derived.Lib.Overlaps
import Derived.Laws.EntriesVeiled
import Derived.Maps.Own
import Derived.Laws.Tables
import Derived.Laws.CopyOwn
import Derived.Deep.RegionWith
import Derived.ChangeAlike
import Derived.BigRegion
import Derived.StillTailTactics
import Derived.LoopN
import Derived.Laws.MakeOwn
import Derived.Shelf.Bits.Mul64
import Derived.Deep.Slices
import Derived.Deep.Fields
import Derived.ChangeSame
import Derived.SizedLaws
import Derived.ChangeArms
import Derived.Below
import Derived.OpenShut
import Derived.LaidEqlPtr
import Derived.Test.YtnpicaigdfnmfaaGreatPnZa
set_option linter.unusedVariables false
set_option linter.unusedSimpArgs false
set_option maxRecDepth 100000
set_option maxHeartbeats 16000000
open Go.Proofs.Tryz
namespace Go.Proofs.YtnpicaigdfnmfaaGreat
open Go.RowKit
end Go.Proofs.YtnpicaigdfnmfaaGreat
namespace Go.Proofs.YtnpicaigdfnmfaaGreat.Sp
open Go.RowKit
end Go.Proofs.YtnpicaigdfnmfaaGreat.Sp
namespace Go.Proofs.YtnpicaigdfnmfaaGreat
open Go.RowKit
namespace Sp
end Sp
end Go.Proofs.YtnpicaigdfnmfaaGreat
namespace Go.Proofs.YtnpicaigdfnmfaaGreat.Sp
open Go.RowKit
end Go.Proofs.YtnpicaigdfnmfaaGreat.Sp
namespace Go.Proofs.YtnpicaigdfnmfaaGreat
open Go.RowKit
namespace Cor
theorem getE{A B:List Pg}(h:cores A=cores B)(addr n need:Int):Sp.getE A addr n need=Sp.getE B addr n need:=by unfold Sp.getE;rw[fitsE h]
theorem permB{A B:List Pg}(h:cores A=cores B)(addr:Int):Sp.permB A addr=Sp.permB B addr:=some_eq h _
end Cor
open Go.RowKit Word
namespace En
end En
namespace Ex
end Ex
open Go.RowKit Word
open Go.RowKit Word
namespace En
section
variable {E F:En}
theorem Like.answer(h:Like E F)(v y:Int):Like (E.answer v y) (F.answer v y):=⟨h.num,h.kind,h.code,h.why,h.text,h.own,h.A,by show Cp.putG (Cp.putG E.r 1 v) 2 y=_;rw[h.r];rfl,h.pc⟩
end
end En
namespace Ni
theorem slcElem_some{w:World}{e:TypeId}{s n:Nat}{v:Value}{xs:List Value}(h:SlV w e s v n xs)(hn:0<n):∃d,slcElem v=some (d,[]):=by
 rcases h.2 with⟨h0,_⟩|⟨g,off,cap,cur,rfl,_⟩
 ·omega
 ·exact⟨_,rfl⟩
theorem Nc.cellGone{w:World}{nb mb:Nat}{V:Int→Value}{sv:Value}{S:NicS}(h:Nc w nb mb V sv S):w.cell? ⟨nb,2,none⟩=some (.int .i64 S.gone):=by
 unfold World.cell?;rw[h.head];rfl
theorem Nc.free{w:World}{nb mb:Nat}{V:Int→Value}{sv:Value}{S:NicS}(h:Nc w nb mb V sv S)(j:Nat):w.frozen? ⟨nb,j,none⟩=false:=by
 unfold World.frozen?;rw[h.head];simp
end Ni
end Go.Proofs.YtnpicaigdfnmfaaGreat
namespace Go.Proofs.YtnpicaigdfnmfaaGreat.Ni
open Go.RowKit
theorem to_(f:ByteArray)(hf:f.size<140737488355328)(w:World):Calls Tryz.prog 37 #[.string f] w fun e w'=>e=.returned (.tuple #[.int .u16 (portV f 22),.bool (portB f)])∧Below w.heap.size w w':=by
 have hp:∀w,Calls Tryz.prog 71 #[.string f,.int .i64 22] w fun e w'=>e=.returned (.tuple #[.int .u16 (portV f 22),.bool (portB f)])∧Below w.heap.size w w':=fun w=>port f hf 22 (by omega) w
 go_enter func37,ntmps37;go_wp2_with (go_at_call 71;(with_reducible refine(hp w).mono ?_);rintro e w1 ⟨rfl,hb⟩);go_ret2;exact⟨rfl,by assumption⟩
variable {w:World} {nb mb:Nat} {V:Int→Value} {sv:Value} {S:NicS}
end Go.Proofs.YtnpicaigdfnmfaaGreat.Ni
namespace Go.Proofs.YtnpicaigdfnmfaaGreat.Ni
open Go.RowKit
theorem Nc.lookAt{w:World}{nb mb:Nat}{V:Int→Value}{sv:Value}{S:NicS}(h:Nc w nb mb V sv S)(x:Int)(h0:0≤x)(h1:x<65536)(w':World)(he:w'.heap[mb]? =w.heap[mb]?):
  (Instr.lookup 266 (.map (some mb)) (.int .u16 x) false).run Tryz.prog w'=.ok (V x) w':=by
 obtain⟨D,n,ho,hv,_⟩:=h.map;have ho':w'.ownsMap Tryz.prog 22 slcElem mb n D:=by
  obtain⟨es,clock,hb,rest⟩:=ho;exact⟨es,clock,he.trans hb,rest⟩
 obtain⟨v,ps,hrun,hR⟩:=ho'.lookup (Maps.int_keyed Tryz.underlying22) Tryz.underlying266 (zeroSlice w') (z:=.slice none 0 0) (zd:=nilD) (zp:=[]) rfl (Maps.keyOf_int_mk Tryz.underlying22 (wf_u16 h0 h1));rw[hrun,slcElem_inj hR (hv x)]
def goneS(S:NicS)(g:Int):NicS:= { S with gone:=g }
theorem Nc.setGone{w:World}{nb mb:Nat}{V:Int→Value}{sv:Value}{S:NicS}(h:Nc w nb mb V sv S)(g:Int):Nc (w.setCell ⟨nb,2,none⟩ (.int .i64 g)) nb mb V sv (goneS S g):=by
 have hne:∀k,k≠nb→(w.setCell ⟨nb,2,none⟩ (.int .i64 g)).heap[k]? =w.heap[k]? :=fun k hk=>Below.heap_setCell _ _ _ _ hk
 have hnx:mb≠nb:=by
  intro e;have:=h.head;obtain⟨D,n,⟨es,clock,hbk,_⟩,_⟩:=h.map;rw[←e,hbk] at this;cases this
 refine⟨?_, ?_,fun x=>(h.rows x).keep fun k hk=>hne k fun e=>(h.rapart x).1 (e▸hk),h.sent.keep fun k hk=>hne k fun e=>h.tapart.1 (e▸hk),h.nodup,h.range,h.apart,h.sapart,h.rapart,h.tapart,h.small,fun k hk=>by simpa [World.setCell] using h.lt k hk⟩
 ·have:=heap_setCell_same w nb 2 _ _ (.int .i64 g) h.head
  simpa [goneS] using this
 ·obtain⟨D,n,⟨es,clock,hbk,rest⟩,hv⟩:=h.map;exact⟨D,n,⟨es,clock,(hne mb hnx).trans hbk,rest⟩,hv⟩
def arriveS(S:NicS)(f:ByteArray):NicS:=if mayB f=true then(if portB f=true∧(S.q (portV f 22)).length<8 then qSet S (portV f 22) (S.q (portV f 22)++[f]) else goneS S (S.gone+1)) else S
def arriveP(f:ByteArray):Int:=if mayB f=true then portV f 22 else 0
def arriveB(S:NicS)(f:ByteArray):Bool:=mayB f&&portB f&&decide ((S.q (portV f 22)).length<8)
def arriveE(f:ByteArray):Int:=if mayB f=true then 0 else 2
theorem arrive_arg{w:World}(nb:Nat)(f:ByteArray)(hf:f.size<140737488355328)(hm:mayB f=false):
  Calls Tryz.prog 74 #[.pointer (some ⟨nb,0,none⟩),.string f] w fun e w'=>e=.returned (.tuple #[.int .u16 0,.bool false,.int .i64 2])∧w=w':=by
 have Hm:=Lh hm;clear hm;go_enter func74,ntmps74;go_wp2_with (go_at_call 124;(with_reducible refine(may f hf _).mono ?_);rw[Hm.out];rintro e w1 ⟨rfl,rfl⟩);go_ret3;exact⟨rfl,rfl⟩
theorem arrive_short{w:World}{nb mb:Nat}{V:Int→Value}{sv:Value}{S:NicS}(h:Nc w nb mb V sv S)(f:ByteArray)(hf:f.size<140737488355328)(hm:mayB f=true)(hp:portB f=false)(g0:0≤S.gone)(g1:S.gone<9223372036854775807):
  Calls Tryz.prog 74 #[.pointer (some ⟨nb,0,none⟩),.string f] w fun e w'=>e=.returned (.tuple #[.int .u16 (portV f 22),.bool false,.int .i64 0])∧Nc w' nb mb V sv (goneS S (S.gone+1))∧Mod (fun k=>k=nb) w w':=by
 have Hm:=Lh hm;have Hp:=Lh hp;have H:=Lh h;clear hm hp h;have hbd:=portV_bd f 22 (by omega);have Hto:=Lh (to_ f hf);generalize portV f 22=p at*;go_enter func74,ntmps74;go_wp2_with (go_at_call 124;(with_reducible refine(may f hf _).mono ?_);rw[Hm.out];rintro e w1 ⟨rfl,rfl⟩);refine(Hto.out _).mono ?_;rw[Hp.out];rintro e w1 ⟨rfl,hb⟩;have h1:=H.out.keep (Mod.of_below hb fun _=>False) fun _ _ g=>g
 have H1:=Lh h1;have hc:=h1.cellGone;have hfr:=h1.free 2;have Hs:=Lh (h1.setGone (S.gone+1));have Hb:=Lh hb;clear h1 hb;generalize hgg:S.gone=gg at*;have Hgg:=Lh hgg;clear hgg;go_wp2;go_ret3;exact⟨rfl,by rw[Hgg.out];exact Hs.out,(Mod.of_below Hb.out (fun k=>k=nb)).setCell _ (.inl rfl) _⟩
theorem arrive_full{w:World}{nb mb:Nat}{V:Int→Value}{sv:Value}{S:NicS}(h:Nc w nb mb V sv S)(f:ByteArray)(hf:f.size<140737488355328)(hm:mayB f=true)(hp:portB f=true)(hl:8≤(S.q (portV f 22)).length)(g0:0≤S.gone)(g1:S.gone<9223372036854775807):
  Calls Tryz.prog 74 #[.pointer (some ⟨nb,0,none⟩),.string f] w fun e w'=>e=.returned (.tuple #[.int .u16 (portV f 22),.bool false,.int .i64 0])∧Nc w' nb mb V sv (goneS S (S.gone+1))∧Mod (fun k=>k=nb) w w':=by
 have Hm:=Lh hm;have Hp:=Lh hp;have H:=Lh h;have hbd:=portV_bd f 22 (by omega);have hsm:=h.small (portV f 22);obtain⟨a,cap,hv⟩:=(h.rows (portV f 22)).form;have Hv:=Lh hv;have Hto:=Lh (to_ f hf);clear hm hp h hv;generalize portV f 22=p at*;generalize (S.q p).length=n at*;go_enter func74,ntmps74;go_wp2_with (go_at_call 124;(with_reducible refine(may f hf _).mono ?_);rw[Hm.out];rintro e w1 ⟨rfl,rfl⟩);refine(Hto.out _).mono ?_;rw[Hp.out];rintro e w1 ⟨rfl,hb⟩;have h1:=H.out.keep (Mod.of_below hb fun _=>False) fun _ _ g=>g
 have H1:=Lh h1;have hc0:=h1.cellMap;have hlk:=h1.look p hbd.1 hbd.2;rw[Hv.out] at hlk;have hc:=h1.cellGone;have hfr:=h1.free 2;have Hs:=Lh (h1.setGone (S.gone+1));have Hb:=Lh hb;clear h1 hb;generalize hgg:S.gone=gg at*;have Hgg:=Lh hgg;clear hgg;go_wp2;go_ret3;exact⟨rfl,by rw[Hgg.out];exact Hs.out,(Mod.of_below Hb.out (fun k=>k=nb)).setCell _ (.inl rfl) _⟩
theorem stored{w w2:World}{nb mb:Nat}{V:Int→Value}{sv:Value}{S:NicS}(h:Nc w nb mb V sv S)(x:Int)(h0:0≤x)(h1:x<65536)(l:List ByteArray)(f:ByteArray)(hl:l.length<8){v1:Value}{o:Obj}{n:Nat}
  (q1:SlV w2 9 1 v1 (n+1) (l.map .string++[.string f])) (q2:Mod (fun k=>(V x).ownBlock=some k) (w.alloc o).drew w2) (q3:v1.ownBlock=(V x).ownBlock∨∃k,v1.ownBlock=some k∧(w.alloc o).drew.heap.size≤k):
  ∃w',(Instr.mapUpdate 266 (.map (some mb)) (.int .u16 x) v1).run Tryz.prog w2=.ok () w'∧Nc w' nb mb (updQ V x v1) sv (qSet S x (l++[f]))∧Mod (fun k=>k=mb∨(V x).ownBlock=some k) w w'∧(v1.ownBlock=(V x).ownBlock∨∃k,v1.ownBlock=some k∧w.heap.size≤k):=by
 have hn:n=l.length:=by have:=q1.1;simp at this;omega
 subst hn;have hm:Mod (fun k=>(V x).ownBlock=some k) w w2:=((Mod.refl _ _).alloc o).drew.same q2;have q3':v1.ownBlock=(V x).ownBlock∨∃k,v1.ownBlock=some k∧w.heap.size≤k:=by
  rcases q3 with g|⟨k,g,hk⟩
  ·exact .inl g
  ·exact .inr ⟨k,g,Nat.le_trans (by simp) hk⟩
 obtain⟨w',hrun,hn',hm'⟩:=h.store x h0 h1 hm v1 (l++[f]) (by simpa using q1) (slcElem_some q1 (by omega)) q3' (fun k hk=>by obtain⟨g,hg,hlt⟩:=q1.lt (by omega);rw[hk] at hg;cases hg;exact hlt) (by simp;omega);exact⟨w',hrun,hn',(hm.mono fun k _ g=>Or.inr g).same (hm'.mono fun k _ g=>Or.inl g),q3'⟩
theorem arrive_kept{w:World}{nb mb:Nat}{V:Int→Value}{sv:Value}{S:NicS}(h:Nc w nb mb V sv S)(f:ByteArray)(hf:f.size<140737488355328)(hm:mayB f=true)(hp:portB f=true)(hl:(S.q (portV f 22)).length<8):
  Calls Tryz.prog 74 #[.pointer (some ⟨nb,0,none⟩),.string f] w fun e w'=>e=.returned (.tuple #[.int .u16 (portV f 22),.bool true,.int .i64 0])∧∃v,Nc w' nb mb (updQ V (portV f 22) v) sv (qSet S (portV f 22) (S.q (portV f 22)++[f]))∧(v.ownBlock=(V (portV f 22)).ownBlock∨∃k,v.ownBlock=some k∧w.heap.size≤k)∧Mod (fun k=>k=mb∨(V (portV f 22)).ownBlock=some k) w w':=by
 obtain⟨i0,hi0,hz0,hz1,hz2⟩:=info_parts infoStr;have Hi:=Lh hi0;have Hz0:=Lh hz0;have Hz1:=Lh hz1;have Hz2:=Lh hz2;clear hi0 hz0 hz1 hz2;have Hm:=Lh hm;have Hp:=Lh hp;have H:=Lh h;have hbd:=portV_bd f 22 (by omega);obtain⟨a,cap,hv⟩:=(h.rows (portV f 22)).form;have Hv:=Lh hv;have Hto:=Lh (to_ f hf);clear hm hp h hv;generalize portV f 22=p at*;generalize hlen:(S.q p).length=n at*;have Hlen:=Lh hlen;clear hlen;go_enter func74,ntmps74;go_wp2_with (go_at_call 124;(with_reducible refine(may f hf _).mono ?_);rw[Hm.out];rintro e w1 ⟨rfl,rfl⟩);refine(Hto.out _).mono ?_;rw[Hp.out];rintro e w1 ⟨rfl,hb⟩;have h1:=H.out.keep (Mod.of_below hb fun _=>False) fun _ _ g=>g
 have H1:=Lh h1;have hc0:=h1.cellMap;have hlk:=h1.look p hbd.1 hbd.2;rw[Hv.out] at hlk;have Hlk:=Lh (h1.lookAt p hbd.1 hbd.2);rw[Hv.out] at Hlk;have Hb:=Lh hb;have Hmb:=Lh (h1.lt mb (.inr (.inl rfl)));have Hnb:=Lh (h1.lt nb (.inl rfl));have Hgl:Hid (∀g,(Value.slice a n cap).ownBlock=some g→g<w1.heap.size):=fun g hg=>h1.lt g (.inr (.inr (.inr ⟨p,by rw[Hv.out];exact hg⟩)))
 have Hra:=Lh (h1.rapart p);have Hr:=Lh (h1.rows p);have Hna:Hid (¬(nb=mb∨(V p).ownBlock=some nb)):=fun g=>g.elim h1.nm (h1.rapart p).1
 rw[Hv.out,Hlen.out] at Hr;clear h1 hb;have hlk2:(Instr.lookup 266 (.map (some mb)) (.int .u16 p) false).run Tryz.prog (w1.alloc (.cells #[.string f] 9)).drew=.ok (.slice a n cap) (w1.alloc (.cells #[.string f] 9)).drew:=Hlk.out _ (Below.heap_alloc _ _ _ Hmb.out);have hlk3:(Instr.lookup 266 (.map (some mb)) (.int .u16 p) false).run Tryz.prog w1.drew=.ok (.slice a n cap) w1.drew:=Hlk.out _ rfl;go_wp2_with fail;go_region_held3 (fun w'=>w'.cell? ⟨nb,0,none⟩=some (.map (some mb)))
  (first
   |go_keep
   |assumption
   |(
     rw[World.cell?_of_block (w:=w1) ((q2.block nb (by simpa using Nat.lt_succ_of_lt Hnb.out) fun g=>Hra.out.1 (Hv.out▸g)).trans (Below.heap_alloc _ _ _ Hnb.out))]
     assumption))
  ((refine step_append_slv (by rfl) _ _ _ (by rfl) 9 i0 (.string ByteArray.empty) 1 16 Tryz.underlying265 Hi.out Hz0.out Hz1.out Hz2.out rfl (by omega) (.slice a n cap) n ((S.q p).map .string) (by rfl) (Hr.out.keep fun g hg=>Below.heap_alloc _ _ _ (Hgl.out g hg)) ⟨w1.heap.size,0,none⟩ 1 1 [.string f] (by rfl) (by omega) (by rfl) (World.news_of_block (cs:= #[.string f]) (t:=9) (fr:=(0,0)) (heap_alloc_new w1 _)) (fun x hx=>by simp at hx;subst hx;rfl) (by unfold maxLen;omega) (by omega) ?_;intro v1 w2 q1 q2 q3;obtain⟨w3,hrun,hn3,hm3⟩:=stored H1.out p hbd.1 hbd.2 (S.q p) f (by rw[Hlen.out];exact hl) q1 (Hv.out▸q2) (Hv.out▸q3);have hc9:w3.cell? ⟨nb,0,none⟩=some (.map (some mb)):=by rw[World.cell?_of_block (w:=w1) (hm3.1.block nb Hnb.out fun g=>Hna.out g)];assumption))
 all_goals
  go_wp2;go_ret3;exact⟨rfl,v1,hn3,hm3.2.imp id fun⟨k,g,hk⟩=>⟨k,g,Nat.le_trans Hb.out.size hk⟩,(Mod.of_below Hb.out _).same hm3.1⟩
end Go.Proofs.YtnpicaigdfnmfaaGreat.Ni
namespace Go.Proofs.YtnpicaigdfnmfaaGreat.Ni
open Go.RowKit
theorem foot_upd{w:World}{nb mb:Nat}{V:Int→Value}{sv v:Value}{x:Int}(hb:v.ownBlock=(V x).ownBlock∨∃k,v.ownBlock=some k∧w.heap.size≤k){k:Nat}(h:foot nb mb (updQ V x v) sv k):foot nb mb V sv k∨w.heap.size≤k:=by
 rcases h with rfl|rfl|h|⟨y,h⟩
 ·exact .inl (.inl rfl)
 ·exact .inl (.inr (.inl rfl))
 ·exact .inl (.inr (.inr (.inl h)))
 ·by_cases e:y=x
  ·subst e;rw[updQ_same] at h;rcases hb with g|⟨k',g,hk⟩
   ·exact .inl (.inr (.inr (.inr ⟨y,g▸h⟩)))
   ·rw[h] at g;cases g;exact .inr hk
  ·rw[updQ_other _ _ _ e] at h;exact .inl (.inr (.inr (.inr ⟨y,h⟩)))
theorem arrive{w:World}{F:Nat→Prop}{nb:Nat}{S:NicS}(h:NicO w F nb S)(f:ByteArray)(hf:f.size<140737488355328)(g0:0≤S.gone)(g1:S.gone<9223372036854775807):
  Calls Tryz.prog 74 #[.pointer (some ⟨nb,0,none⟩),.string f] w fun e w'=>e=.returned (.tuple #[.int .u16 (arriveP f),.bool (arriveB S f),.int .i64 (arriveE f)])∧NicO w' (Fr F w) nb (arriveS S f)∧Mod F w w':=by
 obtain⟨mb,V,sv,hn,hF⟩:=h;unfold arriveP arriveB arriveE arriveS;cases hm:mayB f with
 |false=>exact(arrive_arg nb f hf hm).mono fun e w' ⟨g,g'⟩=>⟨g,g'▸⟨mb,V,sv,hn,fun k hk=>.inl (hF k hk)⟩,g'▸Mod.refl _ _⟩
 |true=>
  rw[if_pos rfl,if_pos rfl,if_pos rfl,Bool.true_and];cases hp:portB f with
  |false=>
   rw[if_neg (by simp)];exact(arrive_short hn f hf hm hp g0 g1).mono fun e w' ⟨g,g',g''⟩=>⟨g,⟨mb,V,sv,g',fun k hk=>.inl (hF k hk)⟩,g''.mono fun k _ e=>hF k (.inl e)⟩
  |true=>
   by_cases hl:(S.q (portV f 22)).length<8
   ·rw[if_pos ⟨rfl,hl⟩,decide_eq_true hl,Bool.true_and];exact(arrive_kept hn f hf hm hp hl).mono fun e w' ⟨g,v,g',gb,g''⟩=>⟨g,⟨mb,_,sv,g',fun k hk=>(foot_upd gb hk).imp (hF k) id⟩,g''.mono fun k _ e=>hF k (e.elim (fun e=>.inr (.inl e)) fun e=>.inr (.inr (.inr ⟨_,e⟩)))⟩
   ·rw[if_neg (fun g=>hl g.2),decide_eq_false hl,Bool.and_false];exact(arrive_full hn f hf hm hp (by omega) g0 g1).mono fun e w' ⟨g,g',g''⟩=>⟨g,⟨mb,V,sv,g',fun k hk=>.inl (hF k hk)⟩,g''.mono fun k _ e=>hF k (.inl e)⟩
end Go.Proofs.YtnpicaigdfnmfaaGreat.Ni
namespace Go.Proofs.YtnpicaigdfnmfaaGreat.Ni
open Go.RowKit
end Go.Proofs.YtnpicaigdfnmfaaGreat.Ni
namespace Go.Proofs.YtnpicaigdfnmfaaGreat
open Go.RowKit Word
namespace Kn
end Kn
namespace Co
section
variable {E F:En} (K:Kn) (h:En.Like E F)
include h
theorem like_no(y:Int):Like (no K E y) (no K F y):=⟨rfl,rfl,rfl,h,rfl,rfl⟩
theorem like_bytes(x n:Int):Kn.bytes E x n=Kn.bytes F x n:=by unfold Kn.bytes;rw[Cor.getE h.A,Cor.getS h.A]
theorem like_A{A A':List Pg}(hA:cores A=cores A'):En.Like { E with A:=A } { F with A:=A' }:=⟨h.num,h.kind,h.code,h.why,h.text,h.own,hA,h.r,h.pc⟩
theorem like_page(b c:Nat)(x:Int):Like (page K E b x) (page K F c x):=by
 unfold page;rw[Cor.permB h.A,h.num]
 split
 ·exact like_no _ h _
 ·split
  ·exact like_no _ h _
  ·exact like_no _ (h.page x b c) _
theorem like_drop(x:Int):Like (drop K E x) (drop K F x):=by
 unfold drop;rw[h.dropE,h.num]
 split
 ·exact like_no _ h _
 ·split
  ·exact like_no _ (h.drop x) _
  ·exact like_no _ h _
theorem like_read(id n x:Int):Like (read K E id n x) (read K F id n x):=by
 unfold read;rw[show Gp.hasBlock (K.g E.num) id n=Gp.hasBlock (K.g F.num) id n by rw[h.num]]
 split
 ·exact like_no _ h _
 ·simp only;rw[Cor.fitsE h.A]
  split
  ·exact like_no _ h _
  ·exact like_no _ (like_A h (Cor.putA h.A x 2 _)) _
theorem like_write(id n x:Int):Like (write K E id n x) (write K F id n x):=by
 unfold write;rw[like_bytes h,h.num]
 split
 ·exact like_no _ h _
 ·split<;>exact like_no _ h _
theorem like_send(x n:Int):Like (send K E x n) (send K F x n):=by
 unfold send;rw[like_bytes h,h.num]
 split
 ·exact like_no _ h _
 ·split
  ·exact like_no _ h _
  ·split
   ·exact like_no _ h _
   ·split
    ·exact like_no _ h _
    ·exact⟨rfl,rfl,rfl,h,rfl,rfl⟩
theorem like_recv(p x m:Int):Like (recv K E p x m) (recv K F p x m):=by
 unfold recv;rw[show Gp.hasPort (K.g E.num) p=Gp.hasPort (K.g F.num) p by rw[h.num]]
 split
 ·exact like_no _ h _
 ·split
  ·exact like_no _ h _
  ·split
   ·exact like_no _ h _
   ·rw[Cor.fitsE h.A]
    split
    ·exact like_no _ h _
    ·exact⟨rfl,rfl,rfl,like_A h (Cor.putA h.A x 2 _),rfl,rfl⟩
theorem like_put(x n:Int):Like (put K E x n) (put K F x n):=by
 unfold put;rw[like_bytes h,h.num]
 split
 ·exact like_no _ h _
 ·split
  ·exact like_no _ h _
  ·split
   ·exact like_no _ h _
   ·rw[h.putE]
    split
    ·exact like_no _ h _
    ·exact⟨rfl,rfl,rfl,h.put _,rfl,rfl⟩
theorem like_call(b c:Nat)(num:Int):Like (call K E b num) (call K F c num):=by
 unfold call;rw[h.arg,h.arg,h.arg]
 repeat' split
 ·exact like_no _ h _
 ·exact like_page _ h _ _ _
 ·exact like_drop _ h _
 ·exact like_read _ h _ _ _
 ·exact like_write _ h _ _ _
 ·exact like_send _ h _ _
 ·exact like_recv _ h _ _ _
 ·exact like_put _ h _ _
 ·exact⟨rfl,rfl,rfl,h,rfl,rfl⟩
 ·exact like_no _ h _
theorem like_doE(b c:Nat)(num:Int):En.Like (doE K E b num) (doE K F c num):=by
 unfold doE;have g:=like_call K h b c num
 split
 ·rw[h.arg];exact h.exit _
 ·rw[g.v,g.y];exact g.E.answer _ _
theorem like_doK(b c:Nat)(num:Int):doK K E b num=doK K F c num:=by
 unfold doK;rw[(like_call K h b c num).K]
end
end Co
open Go.RowKit
open Go.RowKit Word
namespace Kl
section
variable {w:World} {a:KAt} {K:Kn}
end
end Kl
open Go.RowKit Word
namespace Kl
end Kl
open Go.RowKit Word
namespace Ex
section
variable {w w':World} {xb kb:Nat} {S:Nat→Slt} {tv:Value}
theorem kernel(h:Ex w xb kb S tv):Calls Tryz.prog 72 #[.pointer (some ⟨xb,0,none⟩)] w fun e w'=>e=.returned (.pointer (some ⟨kb,0,none⟩))∧w=w':=by
 have c0:=h.ker;clear h;go_enter func72,ntmps72;go_wp2;go_ret;exact⟨rfl,rfl⟩
end
end Ex
namespace Cl
theorem info_evt:(Tryz.prog.info? 89).map (fun i=>(i.zero,i.size,i.bytes))=some (some (.agg #[.int .u8 0,.int .i64 0,.string ByteArray.empty,.int .u32 0]),4,40):=by kernel_rfl
theorem clone_evt{w:World}{a:Option Addr}{n cap:Nat}{xs:List Value}(hl:xs.length=n*4)(hc:At w a xs)(hs:n≤2000000)(h1:∀u,u∈xs→u.oneCell'=true):
  Calls Tryz.prog 70 #[.slice a n cap] w fun e w'=>∃v',e=.returned v'∧SlV w' 89 4 v' n xs∧(∀b,v'.ownBlock=some b→w.heap.size≤b∧b<w'.heap.size)∧Below w.heap.size w w':=by
 obtain⟨i0,hi0,hz0,hz1,hz2⟩:=info_parts info_evt
 by_cases h0:n=0
 ·subst h0;obtain rfl:xs=[]:=List.length_eq_zero_iff.1 (by omega);clear hc;cases a with
  |none=>
   have hq:=fun W=>Lib.run_eql_slice_nil (P:=Tryz.prog) W _ _ none 0 cap 0 0 Tryz.underlying86
   go_enter func70,ntmps70;go_wp2
   first
    |(go_ret;exact⟨_,rfl,SlV.nil _ _ _,fun b hb=>(nomatch hb),Below.refl _ _⟩)
    |(refine bodyPost_ret (v:=.slice none 0 0) (by simp[results,Tryz.results70,go_sem, *]) rfl ?_;exact⟨_,rfl,SlV.nil _ _ _,fun b hb=>(nomatch hb),Below.refl _ _⟩)
  |some p=>
   have hq:=fun W=>Lib.run_eql_slice_nil (P:=Tryz.prog) W _ _ (some p) 0 cap 0 0 Tryz.underlying86
   have HB:Hid (Below w.heap.size w (w.alloc (.cells #[] 89))):=Lh (Ba _);have HL:Hid (SlV (w.alloc (.cells #[] 89)) 89 4 (.slice (some ⟨w.heap.size,0,none⟩) 0 0) 0 []):=Lh ⟨rfl,.inl ⟨rfl,_,rfl⟩⟩;go_enter func70,ntmps70;go_wp2;go_ret;exact⟨_,rfl,HL.out,fun b hb=>by injection hb with hb;exact⟨Nat.le_of_eq hb,by rw[←hb];simp⟩,HB.out⟩
 ·obtain⟨u,hu⟩:∃u,xs[0]? =some u:=⟨_,Zg (by omega)⟩;obtain⟨g,off,rfl,_⟩:=hc 0 u hu;have hcl:∀j u,xs[j]? =some u→(w.alloc (.cells #[] 89)).cell? ((⟨g,off,none⟩:Addr).add j)=some u:=fun j u hu=>by
   obtain⟨g',o',e,hcc⟩:=hc j u hu;simp only[Option.some.injEq,Addr.mk.injEq,and_true] at e;obtain⟨rfl,rfl⟩:=e;have hlt:g<w.heap.size:=by
    unfold World.cell? at hcc;cases hg:w.heap[g]? with
    |none=>rw[hg] at hcc;cases hcc
    |some _=>exact lQ hg
   rw[Addr.add_lit];exact(World.cell?_of_block (w:=w) (Below.heap_alloc _ _ _ hlt)).trans hcc
  have hq:=fun W=>Lib.run_eql_slice_nil (P:=Tryz.prog) W _ _ (some ⟨g,off,none⟩) n cap 0 0 Tryz.underlying86
  have HB:Hid (Below w.heap.size w (w.alloc (.cells #[] 89))):=Lh (Ba _);have HN:Hid (SlV (w.alloc (.cells #[] 89)) 89 4 (.slice (some ⟨w.heap.size,0,none⟩) 0 0) 0 []):=Lh ⟨rfl,.inl ⟨rfl,_,rfl⟩⟩;have HC:=Lh hcl;have HLn:=Lh hl;have H1:=Lh h1;have hml:n≤maxLen:=by unfold maxLen;omega
  clear hcl hc hl h1 hu;go_enter func70,ntmps70;go_wp2_with (at_builtin;refine wpList_append_slv _ rfl _ _ 86 rfl 89 i0 (.agg #[.int .u8 0,.int .i64 0,.string ByteArray.empty,.int .u32 0]) 4 40 Tryz.underlying86 hi0 hz0 hz1 hz2 rfl (by decide) _ 0 [] rfl HN.out ⟨g,off,none⟩ n cap xs rfl (by omega) HLn.out HC.out H1.out (by omega) (by omega) ?_;intro v2 w2 hl2 hm2 hb2);go_ret;refine⟨v2,rfl, ?_, ?_, ?_⟩
  ·have:=hl2;rw[Nat.zero_add,List.nil_append] at this;exact this
  ·intro b hb;refine⟨?_, ?_⟩
   ·have hb3:v2.ownBlock=some w.heap.size∨∃k,v2.ownBlock=some k∧(w.alloc (.cells #[] 89)).heap.size≤k:=hb2;rcases hb3 with g2|⟨k,g2,g3⟩
    ·rw[g2] at hb
     injection hb with hb
     exact Nat.le_of_eq hb
    ·rw[g2] at hb
     injection hb with hb
     simp at g3;omega
   ·obtain⟨g,q1,q2⟩:=SlV.lt hl2 (by omega);have hb':v2.ownBlock=some b:=hb;rw[q1] at hb'
    injection hb' with hb'
    omega
  ·refine Mod.below HB.out hm2 (by simp) fun i _ hi=> ?_
   injection hi with hi
   exact Nat.le_of_eq hi
end Cl
namespace Ex
section
variable {w w':World} {xb kb:Nat} {S:Nat→Slt} {tv:Value}
def TraceP(w:World)(T:List Eve)(e:Ending)(w':World):Prop:=∃v',e=.returned v'∧SlV w' 89 4 v' T.length (eveC T)∧Below w.heap.size w w'
theorem eve_len(T:List Eve):(eveC T).length=T.length*4:=by
 unfold eveC
 induction T with
 |nil=>rfl
 |cons x T ih=>rw[List.flatMap_cons,List.length_append,ih];show 4+_=_;simp;omega
theorem eve_one(T:List Eve):∀u,u∈eveC T→u.oneCell'=true:=fun u hu=>by
 obtain⟨x,_,hx⟩:=List.mem_flatMap.1 hu;simp[Eve.cells] at hx;rcases hx with rfl|rfl|rfl|rfl<;>rfl
theorem trace{base:Nat}{T:List Eve}(h:Ex w xb kb S tv)(hr:ERow w base tv T)(hl:T.length≤1000000):Calls Tryz.prog 36 #[.pointer (some ⟨xb,0,none⟩)] w (TraceP w T):=by
 have HFin:=Lh fun V v' (h1:SlV V 89 4 v' T.length (eveC T)) (h2:Below w.heap.size w V)=>(show TraceP w T (.returned v') V from⟨v',rfl,h1,h2⟩)
 generalize TraceP w T=PQ at*;obtain⟨c0,_⟩:=h.tvc;obtain⟨a,c,hv,hat⟩:∃a c,tv=.slice a T.length c∧Cl.At w a (eveC T):=by
  rcases hr.2 with⟨rfl,e⟩|⟨g,cap,cur,rfl,h0,hg,h1,h2,h3,h4⟩
  ·refine⟨none,0,by rw[e],fun j u hu=> ?_⟩;have:T=[]:=List.length_eq_zero_iff.1 e;subst this;simp[eveC] at hu
  ·refine⟨_,cap,rfl,fun j u hu=>⟨g,0,rfl, ?_⟩⟩;have hj:=(List.getElem?_eq_some_iff.1 hu).1;rw[eve_len] at hj;unfold World.cell?;rw[hg]
   show cur[0+j]? =_
   rw[←hu,←h4,Nat.zero_add,List.getElem?_take_of_lt (by omega)]
   simp
 subst hv;have HC:=Lh (Cl.clone_evt (cap:=c) (eve_len T) hat (by omega) (eve_one T));clear h hr hat hl;go_enter func36,ntmps36;go_wp2_with fail;refine HC.out.mono ?_;rintro e w2 ⟨v',rfl,h1,_,h2⟩;have H1:=Lh h1;have H2:=Lh h2;clear h1 h2;go_wp2;exact HFin.out _ _ H1.out H2.out
end
end Ex
open Go.RowKit Go.Maps Go.Shelf Pag
namespace Pr
theorem row_shape{w:World}{base n s:Nat}{e:TypeId}{v:Value}{xs:List Value}(h:w.ownsRow base e s v n xs):∃o cc,v=.slice o n cc:=by
 rcases h.2 with⟨rfl,hz⟩|⟨g,cap,cur,rfl,_⟩
 ·exact⟨none,0,by rw[hz]⟩
 ·exact⟨_,cap,rfl⟩
end Pr
end Go.Proofs.YtnpicaigdfnmfaaGreat
namespace Go.Proofs.YtnpicaigdfnmfaaGreat.Pr
open Go.RowKit Word Cp
theorem bytes_eq{a b:ByteArray}{l:List UInt8}(h1:a.data.toList=l)(h2:b.data.toList=l):a=b:=by
 obtain⟨⟨a⟩⟩:=a;obtain⟨⟨b⟩⟩:=b;simp only at h1 h2;rw[h1,h2]
end Go.Proofs.YtnpicaigdfnmfaaGreat.Pr
namespace Go.Proofs.YtnpicaigdfnmfaaGreat
open Go.RowKit Pag
namespace Wr
theorem has_nil(w:World)(n:Int):Calls Tryz.prog 34 #[.pointer none,.int .i64 n] w fun r w'=>r=.returned (.int .i64 1)∧w=w':=by
 go_enter func34,ntmps34;go_wp2;go_ret;exact⟨rfl,rfl⟩
theorem at_nil(w:World)(n:Int):Calls Tryz.prog 39 #[.pointer none,.int .i64 n] w fun r w'=>r=.returned (.int .i64 1)∧w=w':=by
 go_enter func39,ntmps39;go_wp2;go_ret;exact⟨rfl,rfl⟩
theorem to_nil(w:World)(p:Int):Calls Tryz.prog 6 #[.pointer none,.int .u16 p] w fun r w'=>r=.returned (.tuple #[.int .i64 0,.bool false])∧w=w':=by
 generalize hPQ:(fun(r:Ending) (w':World)=>r=.returned (.tuple #[.int .i64 0,.bool false])∧w=w')=PQ;have HF:Hid (PQ (.returned (.tuple #[.int .i64 0,.bool false])) w):=Lh (by rw[←hPQ];exact⟨rfl,rfl⟩);clear hPQ;go_enter func6,ntmps6;go_wp2
 first|exact HF.out|exact bodyPost_ret (v:=.tuple #[.int .i64 0,.bool false]) (by simp[results,Tryz.results6,go_sem]) rfl HF.out
theorem counts_nil(w:World):Calls Tryz.prog 9 #[.pointer none] w fun r w'=>r=.returned (.tuple #[.int .i64 0,.int .i64 0,.int .i64 0])∧w=w':=by
 generalize hPQ:(fun(r:Ending) (w':World)=>r=.returned (.tuple #[.int .i64 0,.int .i64 0,.int .i64 0])∧w=w')=PQ;have HF:Hid (PQ (.returned (.tuple #[.int .i64 0,.int .i64 0,.int .i64 0])) w):=Lh (by rw[←hPQ];exact⟨rfl,rfl⟩);clear hPQ;go_enter func9,ntmps9;go_wp2
 first|exact HF.out|exact bodyPost_ret (v:=.tuple #[.int .i64 0,.int .i64 0,.int .i64 0]) (by simp[results,Tryz.results9,go_sem]) rfl HF.out
theorem flying_nil(w:World):Calls Tryz.prog 12 #[.pointer none] w fun r w'=>r=.returned (.slice none 0 0)∧w=w':=by
 go_enter func12,ntmps12;go_wp2;go_ret;exact⟨rfl,rfl⟩
theorem machine_nil(w:World)(n:Int):Calls Tryz.prog 10 #[.pointer none,.int .i64 n] w fun r w'=>r=.returned (.pointer none)∧w=w':=by
 go_enter func10,ntmps10;go_wp2_with fail;refine(has_nil w n).mono ?_;rintro r w1 ⟨rfl,rfl⟩;go_wp2;go_ret;exact⟨rfl,rfl⟩
theorem route_nil(w:World)(p n:Int):Calls Tryz.prog 11 #[.pointer none,.int .u16 p,.int .i64 n] w fun r w'=>r=.returned (.int .i64 1)∧w=w':=by
 go_enter func11,ntmps11;go_wp2_with fail;refine(has_nil w n).mono ?_;rintro r w1 ⟨rfl,rfl⟩;go_wp2;go_ret;exact⟨rfl,rfl⟩
theorem gather_nil(w:World)(n:Int):Calls Tryz.prog 8 #[.pointer none,.int .i64 n] w fun r w'=>r=.returned (.tuple #[.int .i64 0,.int .i64 1])∧w=w':=by
 generalize hPQ:(fun(r:Ending) (w':World)=>r=.returned (.tuple #[.int .i64 0,.int .i64 1])∧w=w')=PQ;have HF:Hid (PQ (.returned (.tuple #[.int .i64 0,.int .i64 1])) w):=Lh (by rw[←hPQ];exact⟨rfl,rfl⟩);clear hPQ;go_enter func8,ntmps8;go_wp2_with fail;refine(has_nil w n).mono ?_;rintro r w1 ⟨rfl,rfl⟩;go_wp2
 first|exact HF.out|exact bodyPost_ret (v:=.tuple #[.int .i64 0,.int .i64 1]) (by simp[results,Tryz.results8,go_sem]) rfl HF.out
theorem run_nil(w:World)(n a b:Int):Calls Tryz.prog 7 #[.pointer none,.int .i64 n,.int .i64 a,.int .i64 b] w fun r w'=>r=.returned (.tuple #[.int .i64 0,.int .i64 1])∧w=w':=by
 generalize hPQ:(fun(r:Ending) (w':World)=>r=.returned (.tuple #[.int .i64 0,.int .i64 1])∧w=w')=PQ;have HF:Hid (PQ (.returned (.tuple #[.int .i64 0,.int .i64 1])) w):=Lh (by rw[←hPQ];exact⟨rfl,rfl⟩);clear hPQ;go_enter func7,ntmps7;go_wp2_with fail;refine(has_nil w n).mono ?_;rintro r w1 ⟨rfl,rfl⟩;go_wp2
 first|exact HF.out|exact bodyPost_ret (v:=.tuple #[.int .i64 0,.int .i64 1]) (by simp[results,Tryz.results7,go_sem]) rfl HF.out
theorem come_nil(w:World)(n:Int):Calls Tryz.prog 13 #[.pointer none,.int .i64 n] w fun r w'=>r=.returned (.int .i64 1)∧w=w':=by
 go_enter func13,ntmps13;go_wp2_with fail;refine(at_nil w n).mono ?_;rintro r w1 ⟨rfl,rfl⟩;go_wp2;go_ret;exact⟨rfl,rfl⟩
theorem lose_nil(w:World)(n:Int):Calls Tryz.prog 14 #[.pointer none,.int .i64 n] w fun r w'=>r=.returned (.int .i64 1)∧w=w':=by
 go_enter func14,ntmps14;go_wp2_with fail;refine(at_nil w n).mono ?_;rintro r w1 ⟨rfl,rfl⟩;go_wp2;go_ret;exact⟨rfl,rfl⟩
theorem flush_nil(w:World):Calls Tryz.prog 15 #[.pointer none] w fun r w'=>r=.returned (.int .i64 0)∧w=w':=by
 go_enter func15,ntmps15;go_wp2_with fail;refine wp_loop_rounds 1 ?_;rw[rounds_succ];go_wp2_with fail;refine(come_nil w 0).mono ?_;rintro r w1 ⟨rfl,rfl⟩;go_wp2
 first|(go_ret;exact⟨rfl,rfl⟩)|exact bodyPost_ret rfl rfl ⟨rfl,rfl⟩
end Wr
open Go.RowKit Pag
structure Rt(w:World)(rb:Nat)(f:Int→Option Int)(n:Nat):Prop where
 map:∃D m,w.ownsMap Tryz.prog 22 (plainElem (H:=Unit) Tryz.prog 3) rb m D∧(∀x zd,D.atKey (.int .u16 x) zd=(match f x with|some y=>.lit (.int .i64 y)|none=>zd))∧Maps.size D=n
namespace Rt
variable {w w':World} {rb n:Nat} {f:Int→Option Int}
theorem lt(h:Rt w rb f n):rb<w.heap.size:=by
 obtain⟨D,m,ho,_⟩:=h.map;exact ho.lt
theorem mod{F:Nat→Prop}(h:Rt w rb f n)(hm:Mod F w w')(hf:¬F rb):Rt w' rb f n:=by
 have hl:=h.lt;obtain⟨D,m,ho,hv,hs⟩:=h.map;exact⟨⟨D,m,own_of_block ho (hm.block _ hl hf),hv,hs⟩⟩
theorem new(w:World):Rt (w.alloc (.map #[] 0)) w.heap.size (fun _=>none) 0:=⟨⟨_,_,World.ownsMap_made w _ _ _,fun x zd=>by simp[DataW.atKey],rfl⟩⟩
theorem zeroI(w:World):(zeroValue 3).run Tryz.prog w=.ok (.int .i64 0) w:=by kernel_rfl
theorem look(h:Rt w rb f n)(x:Int)(h0:0≤x)(h1:x<65536):(Instr.lookup 82 (.map (some rb)) (.int .u16 x) true).run Tryz.prog w=.ok (.tuple #[.int .i64 ((f x).getD 0),.bool (f x).isSome]) w:=by
 obtain⟨D,m,ho,hv,_⟩:=h.map;obtain⟨v,ps,hrun,hR⟩:=ho.look_ok (Maps.int_keyed Tryz.underlying22) Tryz.underlying82 (zeroI w) (zd:=.lit (.int .i64 0)) (zp:=[]) (plainElem_int Tryz.underlying3 (by decide)) (Maps.keyOf_int_mk Tryz.underlying22 (Ni.wf_u16 h0 h1));rw[hrun];rw[hv] at hR;obtain⟨y,rfl,hz,_⟩:=plainElem_int_inv Tryz.underlying3 hR;cases hf:f x with
 |none=>
  rw[hf] at hz;have e:y=0:=by simp at hz;exact hz.1.symm
  have hh:Maps.has D (.int .u16 x)=false:=Maps.has_false_of_atKey fun z=>by rw[hv,hf]
  rw[e,hh];rfl
 |some q=>
  rw[hf] at hz;have e:y=q:=by simp at hz;exact hz.1.symm
  have hh:Maps.has D (.int .u16 x)=true:=Maps.has_true_of_atKey (y:=.lit (.int .i64 q)) fun z=>by rw[hv,hf]
  rw[e,hh];rfl
theorem put(h:Rt w rb f n)(x y:Int)(h0:0≤x)(h1:x<65536)(y0:0≤y)(y1:y≤1000000)(hf:f x=none)(hn:n≤1000000):
  ∃w',(Instr.mapUpdate 82 (.map (some rb)) (.int .u16 x) (.int .i64 y)).run Tryz.prog w=.ok () w'∧Rt w' rb (fun z=>if z=x then some y else f z) (n+1)∧Mod (fun k=>k=rb) w w':=by
 obtain⟨D,m,ho,hv,hs⟩:=h.map;have ht:=own_tight ho;have K:=Maps.int_keyed (P:=Tryz.prog) Tryz.underlying22;have hk:=Maps.keyOf_int_mk (P:=Tryz.prog) Tryz.underlying22 (Ni.wf_u16 h0 h1);obtain⟨w',hrun,how,htu⟩:=ht.store K Tryz.underlying82 (by rw[hs];unfold maxLen;omega) (val:=.int .i64 y) (d:=.lit (.int .i64 y)) (ps:=[]) hk (plainElem_int Tryz.underlying3 (by simp[Lit.wf,IntKind.min,IntKind.max,IntKind.signed,IntKind.bits];omega));have hg:=htu.grown;refine⟨w',hrun,⟨⟨_,_,how,fun z zd=> ?_, ?_⟩⟩,⟨hg.os,hg.tape,hg.output,hg.size,fun k hk hkm=>hg.block k hk (by simpa using hkm)⟩⟩
 ·by_cases e:z=x
  ·subst e;rw[Maps.atKey_put_same ht.isMap (K.key hk),if_pos rfl]
  ·rw[Maps.atKey_put_other (by intro g;simp at g;exact e g),hv,if_neg e]
 ·rw[Maps.size_put (ht.tidy K),hs];have:Maps.has D (.int .u16 x)=false:=Maps.has_false_of_atKey fun z=>by rw[hv,hf]
  rw[this];rfl
end Rt
structure Flt where
 a:Int
 b:Int
 t:ByteArray
def Flt.cells(x:Flt):List Value:=[.int .i64 x.a,.int .i64 x.b,.string x.t]
def flC(L:List Flt):List Value:=L.flatMap Flt.cells
theorem flC_len:∀L:List Flt,(flC L).length=L.length*3
 | []=>rfl
 |x::L=>by
  show(x.cells++flC L).length=_
  rw[List.length_append,flC_len L,List.length_cons]
  show 3+_=_
  omega
theorem flC_one(L:List Flt):∀v,v∈flC L→v.oneCell'=true:=by
 intro v hv;obtain⟨x,_,h⟩:=List.mem_flatMap.1 hv;simp only[Flt.cells,List.mem_cons,List.not_mem_nil,or_false] at h;rcases h with rfl|rfl|rfl<;>rfl
theorem info_flt:(Tryz.prog.info? 93).map (fun i=>(i.zero,i.size,i.bytes))=some (some (.agg #[.int .i64 0,.int .i64 0,.string ByteArray.empty]),3,32):=by kernel_rfl
theorem zeroF(w:World):(zeroValue 93).run Tryz.prog w=.ok (.agg #[.int .i64 0,.int .i64 0,.string ByteArray.empty]) w:=by kernel_rfl
structure Wr(w:World)(wb:Nat)(s c l:Int)(mv sv:Value)(rb:Nat)(fv:Value):Prop where
 blk:w.heap[wb]? =some (.cells #[.int .i64 s,.int .i64 c,.int .i64 l,mv,sv,.map (some rb),fv] 84 (0,0))
namespace Wr
variable {w w':World} {wb rb:Nat} {s c l:Int} {mv sv fv:Value}
theorem mod{F:Nat→Prop}(h:Wr w wb s c l mv sv rb fv)(hm:Mod F w w')(hF:¬F wb):Wr w' wb s c l mv sv rb fv:=⟨(hm.block _ (lQ h.blk) hF).trans h.blk⟩
theorem below(h:Wr w wb s c l mv sv rb fv)(hb:Below w.heap.size w w'):Wr w' wb s c l mv sv rb fv:=⟨(hb.block _ (lQ h.blk)).trans h.blk⟩
theorem cells(h:Wr w wb s c l mv sv rb fv):w.cell? ⟨wb,0,none⟩=some (.int .i64 s)∧w.cell? ⟨wb,1,none⟩=some (.int .i64 c)∧w.cell? ⟨wb,2,none⟩=some (.int .i64 l)∧w.cell? ⟨wb,3,none⟩=some mv∧w.cell? ⟨wb,4,none⟩=some sv∧w.cell? ⟨wb,5,none⟩=some (.map (some rb))∧w.cell? ⟨wb,6,none⟩=some fv∧∀i,w.frozen? ⟨wb,i,none⟩=false:=by
 unfold World.cell? World.frozen?;rw[h.blk];exact⟨rfl,rfl,rfl,rfl,rfl,rfl,rfl,fun i=>by simp[h.blk]⟩
theorem has{mo:Option Addr}{k mc:Nat}(h:Wr w wb s c l (.slice mo k mc) sv rb fv)(n:Nat)(hn:n<k)(hk:k≤1000):Calls Tryz.prog 34 #[.pointer (some ⟨wb,0,none⟩),.int .i64 n] w fun r w'=>r=.returned (.int .i64 0)∧w=w':=by
 obtain⟨c0,c1,c2,c3,c4,c5,c6,_⟩:=h.cells;have h1:¬((n:Int)<0):=by omega
 have h2:¬((k:Int)≤n):=by omega
 clear h;go_enter func34,ntmps34;go_wp2;go_ret;exact⟨rfl,rfl⟩
theorem route{mo:Option Addr}{k mc:Nat}(h:Wr w wb s c l (.slice mo k mc) sv rb fv){f:Int→Option Int}{m:Nat}(hr:Rt w rb f m)(p:Int)(p0:0≤p)(p1:p<65536)(n:Nat)(hn:n<k)(hk:k≤1000)(hf:f p=none)(hm:m≤1000):
  Calls Tryz.prog 11 #[.pointer (some ⟨wb,0,none⟩),.int .u16 p,.int .i64 n] w fun r w'=>r=.returned (.int .i64 0)∧Rt w' rb (fun z=>if z=p then some (n:Int) else f z) (m+1)∧Mod (fun q=>q=rb) w w':=by
 obtain⟨c0,c1,c2,c3,c4,c5,c6,_⟩:=h.cells;have HH:=Lh (h.has n hn hk);obtain⟨w2,hrun,hr2,hm2⟩:=hr.put p n p0 p1 (by omega) (by omega) hf (by omega);have HE:=Lh (And.intro hr2 hm2);clear h hr hr2 hm2 hf;go_enter func11,ntmps11;go_wp2_with fail;refine HH.out.mono ?_;rintro r w1 ⟨rfl,rfl⟩;go_wp2;go_ret;exact⟨rfl,HE.out⟩
theorem to_(h:Wr w wb s c l mv sv rb fv){f:Int→Option Int}{m:Nat}(hr:Rt w rb f m)(p:Int)(p0:0≤p)(p1:p<65536):
  Calls Tryz.prog 6 #[.pointer (some ⟨wb,0,none⟩),.int .u16 p] w fun r w'=>r=.returned (.tuple #[.int .i64 ((f p).getD 0),.bool (f p).isSome])∧w=w':=by
 obtain⟨c0,c1,c2,c3,c4,c5,c6,_⟩:=h.cells;have hl:=hr.look p p0 p1;clear h hr;go_enter func6,ntmps6;go_wp2;go_ret2;exact⟨rfl,rfl⟩
theorem at_ok{fo:Option Addr}{k fc:Nat}(h:Wr w wb s c l mv sv rb (.slice fo k fc))(n:Nat)(hn:n<k)(hk:k≤1000):Calls Tryz.prog 39 #[.pointer (some ⟨wb,0,none⟩),.int .i64 n] w fun r w'=>r=.returned (.int .i64 0)∧w=w':=by
 obtain⟨c0,c1,c2,c3,c4,c5,c6,_⟩:=h.cells;have h1:¬((n:Int)<0):=by omega
 have h2:¬((k:Int)≤n):=by omega
 clear h;go_enter func39,ntmps39;go_wp2;go_ret;exact⟨rfl,rfl⟩
theorem at_none{fo:Option Addr}{fc:Nat}(h:Wr w wb s c l mv sv rb (.slice fo 0 fc)):Calls Tryz.prog 39 #[.pointer (some ⟨wb,0,none⟩),.int .i64 0] w fun r w'=>r=.returned (.int .i64 3)∧w=w':=by
 obtain⟨c0,c1,c2,c3,c4,c5,c6,_⟩:=h.cells;clear h;go_enter func39,ntmps39;go_wp2;go_ret;exact⟨rfl,rfl⟩
theorem come_none{fo:Option Addr}{fc:Nat}(h:Wr w wb s c l mv sv rb (.slice fo 0 fc)):Calls Tryz.prog 13 #[.pointer (some ⟨wb,0,none⟩),.int .i64 0] w fun r w'=>r=.returned (.int .i64 3)∧w=w':=by
 have HA:=Lh h.at_none;clear h;go_enter func13,ntmps13;go_wp2_with fail;refine HA.out.mono ?_;rintro r w1 ⟨rfl,rfl⟩;go_wp2;go_ret;exact⟨rfl,rfl⟩
theorem counts(h:Wr w wb s c l mv sv rb fv):Calls Tryz.prog 9 #[.pointer (some ⟨wb,0,none⟩)] w fun r w'=>r=.returned (.tuple #[.int .i64 s,.int .i64 c,.int .i64 l])∧Below w.heap.size w w':=by
 have HF:=Lh fun V (hV:Below w.heap.size w V)=>(show(fun(r:Ending) (w':World)=>r=.returned (.tuple #[.int .i64 s,.int .i64 c,.int .i64 l])∧Below w.heap.size w w') (.returned (.tuple #[.int .i64 s,.int .i64 c,.int .i64 l])) V from⟨rfl,hV⟩)
 generalize (fun(r:Ending) (w':World)=>r=.returned (.tuple #[.int .i64 s,.int .i64 c,.int .i64 l])∧Below w.heap.size w w')=PQ at*;obtain⟨c0,c1,c2,c3,c4,c5,c6,_⟩:=h.cells;clear h;go_enter func9,ntmps9;go_upto_region 3 with(fail);go_quiet (fail);have HE:=Lh (HF.out _ (below_drawn Br nq));go_wp2;exact bodyPost_ret (v:=.tuple #[.int .i64 s,.int .i64 c,.int .i64 l]) (by simp[results,Tryz.results9,go_sem]) rfl HE.out
end Wr
namespace Cl
theorem clone_flt{w:World}{base g cap:Nat}{L:List Flt}(h:w.ownsRow base 93 3 (.slice (some ⟨g,0,none⟩) L.length cap) L.length (flC L))(hp:0<L.length)(hs:L.length≤1000):
  Calls Tryz.prog 38 #[.slice (some ⟨g,0,none⟩) L.length cap] w fun e w'=>∃g' cap',e=.returned (.slice (some ⟨g',0,none⟩) L.length cap')∧w'.ownsRow w.heap.size 93 3 (.slice (some ⟨g',0,none⟩) L.length cap') L.length (flC L)∧Below w.heap.size w w':=by
 obtain⟨i0,hi0,hz0,hz1,hz2⟩:=info_parts info_flt;have hq:=fun W=>Lib.run_eql_slice_nil (P:=Tryz.prog) W _ _ (some ⟨g,0,none⟩) L.length cap 0 0 Tryz.underlying35
 rcases h.2 with⟨e,_⟩|⟨g1,cap1,cur,e,hb,hg,h1,h2,h3,h4⟩
 ·cases e
 cases e;have hcl:∀j u,(flC L)[j]? =some u→(w.alloc (.cells #[] 93)).cell? ((⟨g,0,none⟩:Addr).add j)=some u:=fun j u hu=>by
  have hj:j<L.length*3:=by have:=(List.getElem?_eq_some_iff.1 hu).1;rw[flC_len] at this;exact this
  rw[Addr.add_lit];unfold World.cell?;rw[Below.heap_alloc _ _ _ (lQ hg),hg];rw[←h4,List.getElem?_take_of_lt hj] at hu
  simpa using hu
 have HB:Hid (Below w.heap.size w (w.alloc (.cells #[] 93))):=Lh (Ba _);have HO:Hid ((w.alloc (.cells #[] 93)).ownsRow w.heap.size 93 3 (.slice (some ⟨w.heap.size,0,none⟩) 0 0) 0 []):=Lh ⟨rfl,.inr ⟨w.heap.size,0, #[],rfl,Nat.le_refl _,heap_alloc_new w _,Nat.le_refl _,by decide,rfl,rfl⟩⟩;have HC:=Lh hcl;have HL3:=Lh (flC_len L);obtain⟨n,hn⟩:∃n,L.length=n:=⟨_,rfl⟩;rw[hn] at hp hs HL3 hq⊢;clear h hg h1 h2 h3 h4 hcl hb hn;go_enter func38,ntmps38;go_wp2_with (at_builtin;refine wpList_append_lies _ rfl _ _ 35 rfl w.heap.size 93 i0 (.agg #[.int .i64 0,.int .i64 0,.string ByteArray.empty]) 3 32 Tryz.underlying35 hi0 hz0 hz1 hz2 rfl (by decide) _ 0 [] rfl HO.out ⟨g,0,none⟩ n cap (flC L) rfl HL3.out HC.out (flC_one L) (by omega) (by unfold maxLen;omega) (by omega) (by simp) _ rfl ?_;intro g2 cap2 w2 hr2 hg2 ho2 hl2;rw[Nat.zero_add,List.nil_append] at hr2;have HR2:=Lh hr2;have HG2:=Lh hg2;clear hr2 hg2 ho2 hl2);have m1:Mod (fun q=>q=w.heap.size) (w.alloc (.cells #[] 93)) w2:=⟨HG2.out.os,HG2.out.tape,HG2.out.output,HG2.out.size,fun q hq hn=>HG2.out.block q hq fun e=>hn (Option.some.inj (show some q=some w.heap.size from e))⟩;have hbl:=Mod.below HB.out m1 (by simp) fun i _ e=>Nat.le_of_eq e.symm
 have hres:∃g' cap',Ending.returned (.slice (some ⟨g2,0,none⟩) n cap2)=.returned (.slice (some ⟨g',0,none⟩) n cap')∧w2.ownsRow w.heap.size 93 3 (.slice (some ⟨g',0,none⟩) n cap') n (flC L)∧Below w.heap.size w w2:=⟨g2,cap2,rfl,HR2.out,hbl⟩
 first|(go_ret;exact hres)|(go_ret;simpa using hres)
theorem run_clear_flt(w:World)(ty:TypeId)(b c:Nat)(hc:∀j,j<3→(w.cell? ⟨b,0+j,none⟩).isSome=true)(hf:∀j,j<3→w.frozen? ⟨b,0+j,none⟩=false):
  (Builtin.clear_ #[35] ty #[.slice (some ⟨b,0,none⟩) 1 c]).run Tryz.prog w=.ok (.tuple #[]) (w.setCells b 0 [.int .i64 0,.int .i64 0,.string { data:= #[] }]):=by
 have hzc:(Builtin.zeroCells (Value.agg #[.int .i64 0,.int .i64 0,.string { data:= #[] }]).cells 1).toList=[.int .i64 0,.int .i64 0,.string { data:= #[] }]:=by kernel_rfl
 have hst:=run_storeCells_cells (P:=Tryz.prog) b 0 [.int .i64 0,.int .i64 0,.string { data:= #[] }] 0 w (by simpa using hc) (by simpa using hf) (by intro v hv';simp at hv';rcases hv' with rfl|rfl|rfl<;>rfl);have hz:∀w,(zeroValue 93).run Tryz.prog w=.ok (.agg #[.int .i64 0,.int .i64 0,.string { data:= #[] }]) w:=fun w=>zeroF w
 simp only[Nat.add_zero] at hst;simp[Builtin.clear_,run_underlying Tryz.underlying35,hz,hzc,hst]
end Cl
end Go.Proofs.YtnpicaigdfnmfaaGreat
namespace Go.Proofs.YtnpicaigdfnmfaaGreat.Cl
open Go.RowKit Pag
theorem delete_flt{w:World}{base g cap:Nat}{f:Flt}(h:w.ownsRow base 93 3 (.slice (some ⟨g,0,none⟩) 1 cap) 1 (flC [f])):
  Calls Tryz.prog 41 #[.slice (some ⟨g,0,none⟩) 1 cap,.int .i64 0,.int .i64 1] w fun e w'=>e=.returned (.slice (some ⟨g,0,none⟩) 0 cap)∧Mod (fun q=>q=g) w w':=by
 obtain⟨i0,hi0,hz0,hz1,hz2⟩:=info_parts info_flt;rcases h.2 with⟨e,_⟩|⟨g1,cap1,cur,e,hb,hg,h1,h2,h3,h4⟩
 ·cases e
 cases e;have hsz:3≤cur.size:=by omega
 obtain⟨A,hA⟩:∃A:Addr,(if cap=1 then some (⟨g,0,none⟩:Addr) else some ⟨g,3,none⟩)=some A:=by
  by_cases e:cap=1
  ·exact⟨_,if_pos e⟩
  ·exact⟨_,if_neg e⟩
 have hcell:∀j,j<3→(w.drew.cell? ⟨g,0+j,none⟩).isSome=true:=fun j hj=>by
  unfold World.cell?
  show(match w.heap[g]? with|some (.cells c elem frozen)=>if false=true then none else c[0+j]? |x=>none).isSome=true
  rw[hg];simp[Array.getElem?_eq_getElem (show j<cur.size by omega)]
 have hfree:∀j,j<3→w.drew.frozen? ⟨g,0+j,none⟩=false:=fun j hj=>by
  unfold World.frozen?
  show(match w.heap[g]? with|some (.cells c elem (lo,hi))=>decide (lo≤0+j)&&decide (0+j<hi)|x=>false)=false
  rw[hg]
  simp
 have hcl:=fun ty c'=>run_clear_flt w.drew ty g c' hcell hfree
 have m2:=mod_setCells g [.int .i64 0,.int .i64 0,.string { data:= #[] }] w.drew 0;have hm:Mod (fun q=>q=g) w (w.drew.setCells g 0 [.int .i64 0,.int .i64 0,.string { data:= #[] }]):=((Mod.refl _ _).drew).same m2;have HM:=Lh hm;have hc1:1≤cap:=h1;have hcm:cap≤9223372036854775807:=by unfold maxLen at h2;omega
 clear h hg h1 h2 h3 h4 hb hsz hcell hfree m2 hm;have mixed:Tryz.prog.follows .mixedOrders=true:=by kernel_rfl
 go_enter func41,ntmps41;go_wp2_with fail;go_region_law_o (refine step_append_room rfl (.tmp 22) (.tmp 25) 35 rfl 93 i0 3 Tryz.underlying35 hi0 hz1 g 0 0 cap (by simp[Act.eval,Act.put]) A 0 (cap - 1) [] (by simp[Act.eval,Act.put, *]) rfl (fun j u hu=>by simp at hu) (fun u hu=>by simp at hu) (by omega) (fun j hj=>by simp at hj) ?_;rw[show World.setCells w.drew g (0+0*3) []=w.drew from rfl]);go_wp2;go_ret;exact⟨rfl,HM.out⟩
end Go.Proofs.YtnpicaigdfnmfaaGreat.Cl
namespace Go.Proofs.YtnpicaigdfnmfaaGreat.Wr
open Go.RowKit Word Cp
theorem evt_like{E F:En}(K:Kn)(h:En.Like E F)(b c:Nat)(num:Int):Kl.evt K E b num=Kl.evt K F c num:=by
 unfold Kl.evt;have hc:=Co.like_call K h b c num;rw[h.num,h.arg]
 split
 ·rfl
 ·unfold evOf;rw[hc.ev,hc.s,hc.E.num]
def nx(p:Kn×En×List Eve):Kn×En×List Eve:=
 if p.2.1.stop.1=1 then(Co.doK p.1 p.2.1.step 0 p.2.1.stop.2.1,Co.doE p.1 p.2.1.step 0 p.2.1.stop.2.1,p.2.2++evL (Kl.evt p.1 p.2.1.step 0 p.2.1.stop.2.1)) else(p.1,p.2.1.step,p.2.2)
def it(p:Kn×En×List Eve):Nat→Kn×En×List Eve
 |0=>p
 |n+1=>nx (it p n)
theorem gn_it{K0:Kn}{E0 F0:En}{T0:List Eve}(hL:En.Like E0 F0){i:Nat}{K:Kn}{E:En}{T:List Eve}(h:Gn K0 E0 T0 i K E T):K=(it (K0,F0,T0) i).1∧En.Like E (it (K0,F0,T0) i).2.1∧T=(it (K0,F0,T0) i).2.2:=by
 induction h with
 |nil=>exact⟨rfl,hL,rfl⟩
 | @step i K E T h hk h1 h2 ih=>
  obtain⟨g1,g2,g3⟩:=ih;have e:it (K0,F0,T0) (i+1)=((it (K0,F0,T0) i).1,(it (K0,F0,T0) i).2.1.step,(it (K0,F0,T0) i).2.2):=if_neg (by rw[←g2.stop];exact h1);rw[e];exact⟨g1,g2.step,g3⟩
 | @sys i K E T b h hk h1 h2 ih=>
  obtain⟨g1,g2,g3⟩:=ih;have e:it (K0,F0,T0) (i+1)=(Co.doK (it (K0,F0,T0) i).1 (it (K0,F0,T0) i).2.1.step 0 (it (K0,F0,T0) i).2.1.stop.2.1,Co.doE (it (K0,F0,T0) i).1 (it (K0,F0,T0) i).2.1.step 0 (it (K0,F0,T0) i).2.1.stop.2.1,(it (K0,F0,T0) i).2.2++evL (Kl.evt (it (K0,F0,T0) i).1 (it (K0,F0,T0) i).2.1.step 0 (it (K0,F0,T0) i).2.1.stop.2.1)):=if_pos (by rw[←g2.stop];exact h1);rw[e,←g2.stop,←g1,←g3];exact⟨Co.like_doK K g2.step b 0 _,Co.like_doE K g2.step b 0 _,by rw[evt_like K g2.step b 0]⟩
def code38:Nat→Ins:=fun i=>if i=0 then⟨32,1,0,0,512⟩ else if i=1 then⟨32,2,0,0,24⟩ else if i=2 then⟨50,0,0,0,7⟩ else if i=3 then⟨32,1,0,0,536⟩ else if i=4 then⟨32,2,0,0,24⟩ else⟨50,0,0,0,7⟩
def perm38:Nat→Int:=fun i=>if i=0 then 8 else if i=1 then 4 else 1
def f38(a b:UInt8):ByteArray:=⟨#[0,0,0,0,0,0,0,0,0,0,0,0,0,0,0,0,0,0,0,0,0,a,0,b]⟩
def text38:ByteArray:=f38 7 9++f38 7 8
def st38(P C cap:Nat):Cp.St:=⟨none,0,0,fun _=>0,256,some ⟨P,0,none⟩,3,3,perm38,256,some ⟨C,0,none⟩,6,cap,code38,512,text38⟩
def en38:En:=En.new 1 256 (madeA perm38 3 256 (strOfNums (textL code38 6)) 512 text38)
def m38:Mn:=⟨0,[],[7],false⟩
def k38:Kn:=Kn.new 100 [4]
def k38a:Kn:= { k38 with g:=Gp.upd k38.g 1 (some ⟨m38,2,0⟩) }
def p38(i:Nat):Kn×En×List Eve:=it (k38a,en38,[]) i
def good38(i:Nat):Bool:=(p38 i).2.1.kind == 2&&(p38 i).2.1.stop.1 != 2&&(p38 i).2.1.stop.2.1 != 2
theorem all38:(List.range 6).all good38=true:=by kernel_rfl
theorem t38:(p38 6).2.2.map (fun e=>(e.k,e.n,e.t.data.toList,e.c))=[(2,1,(f38 7 9).data.toList,0),(2,1,(f38 7 8).data.toList,0)]:=by kernel_rfl
theorem g38:(Ca.hardOk 100 [4],Ca.grantE 100 [4] (fun _=>none) 1 m38 2)=(true,0):=by kernel_rfl
theorem good_at{m:Nat}(h:m<6):(it (k38a,en38,[]) m).2.1.kind=2∧(it (k38a,en38,[]) m).2.1.stop.1≠2∧(it (k38a,en38,[]) m).2.1.stop.2.1≠2:=by
 have:=List.all_eq_true.1 all38 m (List.mem_range.2 h);unfold good38 p38 at this;simp only[Bool.and_eq_true,beq_iff_eq,bne_iff_ne] at this;exact⟨this.1.1,this.1.2,this.2⟩
theorem bytes_ext{a b:ByteArray}(h:a.data.toList=b.data.toList):a=b:=Pr.bytes_eq h rfl
theorem eve_ext{e:Eve}{k n c:Int}{t:ByteArray}(h:(e.k,e.n,e.t.data.toList,e.c)=(k,n,t.data.toList,c)):e=⟨k,n,t,c⟩:=by
 obtain⟨ek,en,et,ec⟩:=e;simp only[Prod.mk.injEq] at h;obtain⟨h1,h2,h3,h4⟩:=h;subst h1 h2 h4;rw[bytes_ext h3]
theorem tr38:(p38 6).2.2=[⟨2,1,f38 7 9,0⟩,⟨2,1,f38 7 8,0⟩]:=by
 have h:=t38;generalize (p38 6).2.2=l at*;cases l with
 |nil=>cases h
 |cons a l=>
  cases l with
  |nil=>simp at h
  |cons b l=>
   cases l with
   |nil=>
    simp only[List.map_cons,List.map_nil,List.cons.injEq,and_true] at h;rw[eve_ext h.1,eve_ext h.2]
   |cons c l=>simp at h
theorem run38{E0:En}(hL:En.Like E0 en38){m:Nat}{K:Kn}{E:En}{T:List Eve}(h:RunX 6 k38a E0 [] m K E T):m=6∧T=[⟨2,1,f38 7 9,0⟩,⟨2,1,f38 7 8,0⟩]:=by
 rcases h with⟨h,h1,h2⟩|⟨E1,T1,h,h1,h2,h3,_⟩|⟨m1,K1,E1,T1,b,h,hm,h1,h2,h3,h4,_⟩
 ·obtain⟨_,g2,g3⟩:=gn_it hL h;rcases Nat.lt_or_ge m 6 with q|q
  ·rcases h2 with h2|h2
   ·omega
   ·exact absurd (g2.kind.trans (good_at q).1) h2
  ·obtain rfl:m=6:=by omega
   have t:=tr38;unfold p38 at t;exact⟨rfl,g3.trans t⟩
 ·obtain⟨_,g2,_⟩:=gn_it hL h;rw[g2.stop] at h3;exact absurd h3 (good_at h1).2.1
 ·obtain⟨_,g2,_⟩:=gn_it hL h;rw[g2.stop] at h4;exact absurd h4 (good_at h1).2.2
theorem pt38:(Ni.portV (f38 7 9) 22,Ni.portB (f38 7 9),Ni.portV (f38 7 8) 22,Ni.portB (f38 7 8))=(9,true,8,true):=by kernel_rfl
end Go.Proofs.YtnpicaigdfnmfaaGreat.Wr
namespace Go.Proofs.YtnpicaigdfnmfaaGreat.Cl
open Go.RowKit Pag
def ptr(o:Option Nat):Value:=.pointer (o.map fun b=>⟨b,0,none⟩)
def Ptrs(w:World)(v:Value)(L:List (Option Nat)):Prop:=∃o cc,v=.slice o L.length cc∧∀T x U,L=T++x::U→∃g,o=some ⟨g,0,none⟩∧g<w.heap.size∧w.cell? ⟨g,T.length,none⟩=some (ptr x)
theorem Ptrs.below{w w':World}{v:Value}{L:List (Option Nat)}(h:Ptrs w v L)(hb:Below w.heap.size w w'):Ptrs w' v L:=by
 obtain⟨o,cc,e,h⟩:=h;refine⟨o,cc,e,fun T x U q=> ?_⟩;obtain⟨g,h1,h2,h3⟩:=h T x U q;exact⟨g,h1,Nat.lt_of_lt_of_le h2 hb.size,(hb.cell (p:=⟨g,T.length,none⟩) h2).trans h3⟩
theorem Ptrs.mod{F:Nat→Prop}{w w':World}{v:Value}{L:List (Option Nat)}(h:Ptrs w v L)(hm:Mod F w w')(hF:∀g,v.ownBlock=some g→¬F g):Ptrs w' v L:=by
 obtain⟨o,cc,e,h⟩:=h;refine⟨o,cc,e,fun T x U q=> ?_⟩;obtain⟨g,h1,h2,h3⟩:=h T x U q;refine⟨g,h1,Nat.lt_of_lt_of_le h2 hm.size, ?_⟩;rw[←h3];exact World.cell?_of_block (w:=w) (hm.block g h2 (hF g (by rw[e,h1];rfl)))
theorem Ptrs.nil(w:World):Ptrs w (.slice none 0 0) []:=⟨none,0,rfl,fun T x U q=>by cases T<;>cases q⟩
theorem Ptrs.of_own{w:World}{base:Nat}{v:Value}{L:List (Option Nat)}(h:w.ownsRow base 32 1 v L.length (L.map ptr)):Ptrs w v L:=by
 rcases h.2 with⟨rfl,hz⟩|⟨g,cap,cur,rfl,_,hg,r1,r2,r3,r4⟩
 ·refine⟨none,0,by rw[hz],fun T x U e=> ?_⟩;rw[e] at hz;simp at hz
 ·refine⟨_,cap,rfl,fun T x U e=>⟨g,rfl,lQ hg, ?_⟩⟩;have h2:(cur.toList.take (L.length*1))[T.length]? =(L.map ptr)[T.length]? :=by rw[r4]
  rw[List.getElem?_take_of_lt (by rw[e];simp),List.getElem?_map] at h2;have h3:L[T.length]? =some x:=by rw[e];simp
  rw[h3] at h2;unfold World.cell?;rw[hg]
  simpa using h2
theorem eqIn_none(w:World)(d:Nat)(b:Option Addr):(Op.equalIn (d+1) 32 (.pointer none) (.pointer b)).run Tryz.prog w=.ok b.isNone w:=by
 simp[Op.equalIn,run_underlying Tryz.underlying32]
theorem eqIn_some(w:World)(d:Nat)(a:Addr):(Op.equalIn (d+1) 32 (.pointer (some a)) (.pointer none)).run Tryz.prog w=.ok false w:=by
 simp[Op.equalIn,run_underlying Tryz.underlying32]
theorem info_exo:(Tryz.prog.info? 186).map (fun i=>i.size)=some 29:=by kernel_rfl
theorem eq_opt(w:World)(y x:Option Nat)(hy:∀b,y=some b→∃c t,w.heap[b]? =some (.cells c t (0,0)))(hx:∀b,x=some b→∃c t,w.heap[b]? =some (.cells c t (0,0))):
  (binOp .eql 32 (.pointer (y.map fun b=>⟨b,0,none⟩)) (.pointer (x.map fun b=>⟨b,0,none⟩))).run Tryz.prog w=.ok (.bool (decide (y=x))) w:=by
 cases y with
 |none=>
  simp only[binOp,Option.map_none];simp[Op.equal,Op.maxDepth,eqIn_none w 9999];cases x<;>rfl
 |some c=>
  cases x with
  |none=>
   simp only[binOp,Option.map_none,Option.map_some];simp[Op.equal,Op.maxDepth,eqIn_some w 9999]
  |some b=>
   have hi:=info_exo;cases hj:Tryz.prog.info? 186 with
   |none=>rw[hj] at hi;cases hi
   |some j=>
    rw[hj] at hi;have hs:j.size=29:=Option.some.inj hi
    by_cases e:c=b
    ·subst e;rw[decide_eq_true rfl];exact run_eql_ptr_same w ⟨c,0,none⟩ Tryz.underlying32 hj
    ·obtain⟨c1,t1,h1⟩:=hy c rfl;obtain⟨c2,t2,h2⟩:=hx b rfl;rw[decide_eq_false fun q=>e (Option.some.inj q)];exact run_eql_ptr_other w (a:=⟨c,0,none⟩) (b:=⟨b,0,none⟩) Tryz.underlying32 hj (by omega) (fun q=>e (congrArg Addr.block q)) h1 h2
def ixRel(w:World)(L:List (Option Nat))(y:Option Nat)(vi:Value)(wr:World):Prop:=∃T U,L=T++U∧vi=.int .i64 T.length∧y∉T∧wr=w
theorem index{w:World}{v:Value}{L:List (Option Nat)}(h:Ptrs w v L)(y:Option Nat)(hl:L.length≤1000)(hE:∀b,some b∈y::L→∃c t,w.heap[b]? =some (.cells c t (0,0))):Calls Tryz.prog 139 #[v,ptr y] w fun r w'=>(∃i:Nat,i≤1000∧r=.returned (.int .i64 i)∧y∈L∨r=.returned (.int .i64 (-1))∧y∉L)∧w=w':=by
 generalize hPQ:(fun(r:Ending) (w':World)=>(∃i:Nat,i≤1000∧r=.returned (.int .i64 i)∧y∈L∨r=.returned (.int .i64 (-1))∧y∉L)∧w=w')=PQ;have HF1:Hid (∀i:Nat,i≤1000→y∈L→PQ (.returned (.int .i64 i)) w):=Lh fun i hi hy=>by rw[←hPQ];exact⟨⟨i,.inl ⟨hi,rfl,hy⟩⟩,rfl⟩
 have HF2:Hid (y∉L→PQ (.returned (.int .i64 (-1))) w):=Lh fun hy=>by rw[←hPQ];exact⟨⟨0,.inr ⟨rfl,hy⟩⟩,rfl⟩
 clear hPQ;obtain⟨o,cc,rfl,hat⟩:=h;have HAt:=Lh hat
 have HEe:=Lh hE;have hln:(L.length:Int)≤1000:=by omega
 clear hat hE;unfold ptr;obtain⟨py,hpy⟩:∃q,(y.map fun b=>(⟨b,0,none⟩:Addr))=q:=⟨_,rfl⟩;rw[hpy];have HPy:=Lh hpy;clear hpy;go_enter func139,ntmps139;go_wp2_with fail;go_loopw [8] (fun vi wr=>ixRel w L y vi wr) (fun vi wr=>L.length - (intOf vi).toNat)
 case atStart=>exact⟨[],L,rfl,rfl,by simp,rfl⟩
 case round=>
  obtain⟨T,U,hTU,rfl,hy,rfl⟩:=hrel;cases U with
  |nil=>
   have htl:T.length=L.length:=by rw[hTU,List.append_nil]
   have hno:¬((T.length:Int)<L.length):=by omega
   have HE:=Lh (HF2.out (by rw[hTU,List.append_nil];exact hy));clear hTU htl hy;go_wp2
   first|exact HE.out|(go_ret;exact HE.out)
  |cons x U=>
   obtain⟨g,rfl,hgl,hx⟩:=HAt.out T x U hTU;have htl:T.length<L.length:=by rw[hTU,List.length_append,List.length_cons];omega
   have hin:(T.length:Int)<L.length:=by omega
   unfold ptr at hx;obtain⟨px,hpx⟩:∃q,(x.map fun b=>(⟨b,0,none⟩:Addr))=q:=⟨_,rfl⟩;rw[hpx] at hx;have hqq:(binOp .eql 32 (.pointer py) (.pointer px)).run Tryz.prog wr=.ok (.bool (decide (y=x))) wr:=by
    rw[←HPy.out,←hpx];exact eq_opt wr y x (fun b e=>HEe.out b (by rw[e];simp)) (fun b e=>HEe.out b (by rw[hTU,e];simp))
   by_cases hxy:y=x
   ·rw[decide_eq_true hxy] at hqq;have HE:=Lh (HF1.out T.length (by omega) (by rw[hTU,hxy];simp));clear hTU htl hy hgl hxy hpx;go_wp2
    first|exact HE.out|(go_ret;exact HE.out)
   ·rw[decide_eq_false hxy] at hqq;have HR:Hid (ixRel wr L y (.int .i64 ((T.length:Int)+1)) wr):=Lh ⟨T++[x],U,by rw[hTU];simp,by rw[List.length_append];rfl,by simp[hy,hxy],rfl⟩;have HT:=Lh htl;clear hTU htl hy hgl hxy hpx;go_wp2;go_roundw
    case rel=>exact HR.out
    case measure=>
     have:=HT.out;simp only[intOf];omega
theorem contains{w:World}{v:Value}{L:List (Option Nat)}(h:Ptrs w v L)(y:Option Nat)(hl:L.length≤1000)(hE:∀b,some b∈y::L→∃c t,w.heap[b]? =some (.cells c t (0,0))):Calls Tryz.prog 90 #[v,ptr y] w fun r w'=>r=.returned (.bool (decide (y∈L)))∧w=w':=by
 have HI:=Lh (index h y hl hE);clear h hE;go_enter func90,ntmps90;go_wp2_with fail;refine HI.out.mono ?_;rintro r w1 ⟨⟨i,⟨hi,rfl,hy⟩|⟨rfl,hy⟩⟩,rfl⟩
 ·have HD:=Lh (decide_eq_true hy);have h0:(0:Int)≤i:=by omega
  clear hy;go_wp2;go_ret;exact⟨by rw[HD.out];rfl,rfl⟩
 ·have HD:=Lh (decide_eq_false hy);clear hy;go_wp2;go_ret;exact⟨by rw[HD.out];rfl,rfl⟩
end Go.Proofs.YtnpicaigdfnmfaaGreat.Cl
namespace Go.Proofs.YtnpicaigdfnmfaaGreat
open Go.RowKit Pag
def encI:Int→Value:=Value.int .i64
structure Wo(w:World)(base wb:Nat)(s c l:Int)(mv sv:Value)(rb:Nat)(fv:Value)(M:List (Option Nat))(N:List Int)(f:Int→Option Int)(k:Nat)(L:List Flt):Prop where
 wr:Wr w wb s c l mv sv rb fv
 m:w.ownsRow base 32 1 mv M.length (M.map Cl.ptr)
 n:w.ownsRow base 3 1 sv N.length (N.map encI)
 r:Rt w rb f k
 fl:w.ownsRow base 93 3 fv L.length (flC L)
 b0:base≤wb∧base≤rb
 ne:wb≠rb
 o1:∀g,mv.ownBlock=some g→g≠wb∧g≠rb∧sv.ownBlock≠some g∧fv.ownBlock≠some g
 o2:∀g,sv.ownBlock=some g→g≠wb∧g≠rb∧fv.ownBlock≠some g
 o3:∀g,fv.ownBlock=some g→g≠wb∧g≠rb
namespace Wo
variable {w w':World} {base wb rb k:Nat} {s c l:Int} {mv sv fv:Value} {M:List (Option Nat)} {N:List Int} {f:Int→Option Int} {L:List Flt}
def foot(wb rb:Nat)(mv sv fv:Value)(q:Nat):Prop:=q=wb∨q=rb∨mv.ownBlock=some q∨sv.ownBlock=some q∨fv.ownBlock=some q
theorem bd(h:Wo w base wb s c l mv sv rb fv M N f k L){q:Nat}(hq:foot wb rb mv sv fv q):base≤q∧q<w.heap.size:=by
 rcases hq with rfl|rfl|hq|hq|hq
 ·exact⟨h.b0.1,lQ h.wr.blk⟩
 ·exact⟨h.b0.2,h.r.lt⟩
 ·exact Pr.row_lt h.m hq
 ·exact Pr.row_lt h.n hq
 ·exact Pr.row_lt h.fl hq
theorem mod{F:Nat→Prop}(h:Wo w base wb s c l mv sv rb fv M N f k L)(hm:Mod F w w')(hF:∀q,foot wb rb mv sv fv q→¬F q):Wo w' base wb s c l mv sv rb fv M N f k L:=
 { h with
      wr:=h.wr.mod hm (hF _ (.inl rfl))
      m:=ownsRow_keep h.m fun g hg=>hm.block g (Pr.row_lt h.m hg).2 (hF g (.inr (.inr (.inl hg))))
      n:=ownsRow_keep h.n fun g hg=>hm.block g (Pr.row_lt h.n hg).2 (hF g (.inr (.inr (.inr (.inl hg)))))
      r:=h.r.mod hm (hF _ (.inr (.inl rfl)))
      fl:=ownsRow_keep h.fl fun g hg=>hm.block g (Pr.row_lt h.fl hg).2 (hF g (.inr (.inr (.inr (.inr hg))))) }
theorem below(h:Wo w base wb s c l mv sv rb fv M N f k L)(hb:Below w.heap.size w w'):Wo w' base wb s c l mv sv rb fv M N f k L:=h.mod (Mod.of_below hb fun _=>False) fun _ _=>id
theorem cell3(h:Wo w base wb s c l mv sv rb fv M N f k L)(i:Nat)(x:Int)(hi:i<3):Wo (w.setCell ⟨wb,i,none⟩ (.int .i64 x)) base wb (if i=0 then x else s) (if i=1 then x else c) (if i=2 then x else l) mv sv rb fv M N f k L∧Mod (fun q=>q=wb) w (w.setCell ⟨wb,i,none⟩ (.int .i64 x)):=by
 have m2:Mod (fun q=>q=wb) w (w.setCell ⟨wb,i,none⟩ (.int .i64 x)):=Mod.setCell (F:=fun q=>q=wb) (Mod.refl _ _) ⟨wb,i,none⟩ (.inl rfl) _;have hb:=heap_setCell_same w wb i _ _ (.int .i64 x) h.wr.blk;refine⟨{ h with wr:=⟨?_⟩,m:=ownsRow_keep h.m fun g hg=>m2.block g (Pr.row_lt h.m hg).2 (h.o1 g hg).1,n:=ownsRow_keep h.n fun g hg=>m2.block g (Pr.row_lt h.n hg).2 (h.o2 g hg).1,r:=h.r.mod m2 h.ne.symm,fl:=ownsRow_keep h.fl fun g hg=>m2.block g (Pr.row_lt h.fl hg).2 (h.o3 g hg).1 },m2⟩;rw[hb]
 match i,hi with
 |0,_=>rfl
 |1,_=>rfl
 |2,_=>rfl
theorem setM(h:Wo w base wb s c l mv sv rb fv M N f k L){w5:World}{g n cap:Nat}{M':List (Option Nat)}(hg:w.grownBy w5 mv.ownBlock)(hr:w5.ownsRow base 32 1 (.slice (some ⟨g,0,none⟩) n cap) M'.length (M'.map Cl.ptr))(ho:mv.ownBlock=some g∨w.heap.size≤g):
  w5.frozen? ⟨wb,3,none⟩=false∧w5.cell? ⟨wb,3,none⟩=some mv∧Wo (w5.setCell ⟨wb,3,none⟩ (.slice (some ⟨g,0,none⟩) n cap)) base wb s c l (.slice (some ⟨g,0,none⟩) n cap) sv rb fv M' N f k L∧Mod (fun q=>q=wb∨mv.ownBlock=some q) w (w5.setCell ⟨wb,3,none⟩ (.slice (some ⟨g,0,none⟩) n cap)):=by
 have m1:Mod (fun q=>mv.ownBlock=some q) w w5:=⟨hg.os,hg.tape,hg.output,hg.size,fun q hq hn=>hg.block q hq fun e=>hn e.symm⟩;have m2:Mod (fun q=>q=wb) w5 (w5.setCell ⟨wb,3,none⟩ (.slice (some ⟨g,0,none⟩) n cap)):=Mod.setCell (F:=fun q=>q=wb) (Mod.refl _ _) ⟨wb,3,none⟩ (.inl rfl) _;have hlp:=lQ h.wr.blk;have hlr:=h.r.lt;have hwo:mv.ownBlock≠some wb:=fun e=>(h.o1 wb e).1 rfl
 have hro:mv.ownBlock≠some rb:=fun e=>(h.o1 rb e).2.1 rfl
 have hb5:=(m1.block wb hlp hwo).trans h.wr.blk;have hgn:g≠wb∧g≠rb∧sv.ownBlock≠some g∧fv.ownBlock≠some g:=by
  rcases ho with q|q
  ·exact h.o1 g q
  ·exact⟨by omega,by omega,fun e=>by have:=(Pr.row_lt h.n e).2;omega,fun e=>by have:=(Pr.row_lt h.fl e).2;omega⟩
 obtain⟨n1,n2,n3,n4⟩:=hgn;have r_m:=ownsRow_keep (w':=(w5.setCell ⟨wb,3,none⟩ (.slice (some ⟨g,0,none⟩) n cap))) hr fun q hq=>by
  cases hq;exact m2.block g (Pr.row_lt hr rfl).2 n1
 have r_n:=ownsRow_keep (w':=(w5.setCell ⟨wb,3,none⟩ (.slice (some ⟨g,0,none⟩) n cap))) h.n fun q hq=>by
  have h1:=(Pr.row_lt h.n hq).2;exact(m2.block q (Nat.lt_of_lt_of_le h1 hg.size) (h.o2 q hq).1).trans (m1.block q h1 fun e=>(h.o1 q e).2.2.1 hq)
 have r_fl:=ownsRow_keep (w':=(w5.setCell ⟨wb,3,none⟩ (.slice (some ⟨g,0,none⟩) n cap))) h.fl fun q hq=>by
  have h1:=(Pr.row_lt h.fl hq).2;exact(m2.block q (Nat.lt_of_lt_of_le h1 hg.size) (h.o3 q hq).1).trans (m1.block q h1 fun e=>(h.o1 q e).2.2.2 hq)
 exact⟨by unfold World.frozen?;rw[hb5];simp,by unfold World.cell?;rw[hb5];rfl,⟨⟨heap_setCell_same w5 wb 3 _ _ _ hb5⟩,r_m,r_n,(h.r.mod m1 hro).mod m2 h.ne.symm,r_fl,h.b0,h.ne,fun q hq=>by cases hq;exact⟨n1,n2,n3,n4⟩,h.o2,h.o3⟩,(m1.mono fun q _ e=>.inr e).trans m2 fun q _ e=>.inl (.inl e)⟩
theorem setN(h:Wo w base wb s c l mv sv rb fv M N f k L){w5:World}{g n cap:Nat}{N':List Int}(hg:w.grownBy w5 sv.ownBlock)(hr:w5.ownsRow base 3 1 (.slice (some ⟨g,0,none⟩) n cap) N'.length (N'.map encI))(ho:sv.ownBlock=some g∨w.heap.size≤g):
  w5.frozen? ⟨wb,4,none⟩=false∧w5.cell? ⟨wb,4,none⟩=some sv∧Wo (w5.setCell ⟨wb,4,none⟩ (.slice (some ⟨g,0,none⟩) n cap)) base wb s c l mv (.slice (some ⟨g,0,none⟩) n cap) rb fv M N' f k L∧Mod (fun q=>q=wb∨sv.ownBlock=some q) w (w5.setCell ⟨wb,4,none⟩ (.slice (some ⟨g,0,none⟩) n cap)):=by
 have m1:Mod (fun q=>sv.ownBlock=some q) w w5:=⟨hg.os,hg.tape,hg.output,hg.size,fun q hq hn=>hg.block q hq fun e=>hn e.symm⟩;have m2:Mod (fun q=>q=wb) w5 (w5.setCell ⟨wb,4,none⟩ (.slice (some ⟨g,0,none⟩) n cap)):=Mod.setCell (F:=fun q=>q=wb) (Mod.refl _ _) ⟨wb,4,none⟩ (.inl rfl) _;have hlp:=lQ h.wr.blk;have hlr:=h.r.lt;have hwo:sv.ownBlock≠some wb:=fun e=>(h.o2 wb e).1 rfl
 have hro:sv.ownBlock≠some rb:=fun e=>(h.o2 rb e).2.1 rfl
 have hb5:=(m1.block wb hlp hwo).trans h.wr.blk;have hgn:g≠wb∧g≠rb∧mv.ownBlock≠some g∧fv.ownBlock≠some g:=by
  rcases ho with q|q
  ·exact⟨(h.o2 g q).1,(h.o2 g q).2.1,fun e=>(h.o1 g e).2.2.1 q,(h.o2 g q).2.2⟩
  ·exact⟨by omega,by omega,fun e=>by have:=(Pr.row_lt h.m e).2;omega,fun e=>by have:=(Pr.row_lt h.fl e).2;omega⟩
 obtain⟨n1,n2,n3,n4⟩:=hgn;have r_m:=ownsRow_keep (w':=(w5.setCell ⟨wb,4,none⟩ (.slice (some ⟨g,0,none⟩) n cap))) h.m fun q hq=>by
  have h1:=(Pr.row_lt h.m hq).2;exact(m2.block q (Nat.lt_of_lt_of_le h1 hg.size) (h.o1 q hq).1).trans (m1.block q h1 fun e=>(h.o1 q hq).2.2.1 e)
 have r_n:=ownsRow_keep (w':=(w5.setCell ⟨wb,4,none⟩ (.slice (some ⟨g,0,none⟩) n cap))) hr fun q hq=>by
  cases hq;exact m2.block g (Pr.row_lt hr rfl).2 n1
 have r_fl:=ownsRow_keep (w':=(w5.setCell ⟨wb,4,none⟩ (.slice (some ⟨g,0,none⟩) n cap))) h.fl fun q hq=>by
  have h1:=(Pr.row_lt h.fl hq).2;exact(m2.block q (Nat.lt_of_lt_of_le h1 hg.size) (h.o3 q hq).1).trans (m1.block q h1 fun e=>(h.o2 q e).2.2 hq)
 exact⟨by unfold World.frozen?;rw[hb5];simp,by unfold World.cell?;rw[hb5];rfl,⟨⟨heap_setCell_same w5 wb 4 _ _ _ hb5⟩,r_m,r_n,(h.r.mod m1 hro).mod m2 h.ne.symm,r_fl,h.b0,h.ne,fun q hq=>⟨(h.o1 q hq).1,(h.o1 q hq).2.1,fun e=>by cases e;exact n3 hq,(h.o1 q hq).2.2.2⟩,fun q hq=>by cases hq;exact⟨n1,n2,n4⟩,h.o3⟩,(m1.mono fun q _ e=>.inr e).trans m2 fun q _ e=>.inl (.inl e)⟩
theorem setF(h:Wo w base wb s c l mv sv rb fv M N f k L){w5:World}{g n cap:Nat}{L':List Flt}(hg:w.grownBy w5 fv.ownBlock)(hr:w5.ownsRow base 93 3 (.slice (some ⟨g,0,none⟩) n cap) L'.length (flC L'))(ho:fv.ownBlock=some g∨w.heap.size≤g):
  w5.frozen? ⟨wb,6,none⟩=false∧w5.cell? ⟨wb,6,none⟩=some fv∧Wo (w5.setCell ⟨wb,6,none⟩ (.slice (some ⟨g,0,none⟩) n cap)) base wb s c l mv sv rb (.slice (some ⟨g,0,none⟩) n cap) M N f k L'∧Mod (fun q=>q=wb∨fv.ownBlock=some q) w (w5.setCell ⟨wb,6,none⟩ (.slice (some ⟨g,0,none⟩) n cap)):=by
 have m1:Mod (fun q=>fv.ownBlock=some q) w w5:=⟨hg.os,hg.tape,hg.output,hg.size,fun q hq hn=>hg.block q hq fun e=>hn e.symm⟩;have m2:Mod (fun q=>q=wb) w5 (w5.setCell ⟨wb,6,none⟩ (.slice (some ⟨g,0,none⟩) n cap)):=Mod.setCell (F:=fun q=>q=wb) (Mod.refl _ _) ⟨wb,6,none⟩ (.inl rfl) _;have hlp:=lQ h.wr.blk;have hlr:=h.r.lt;have hwo:fv.ownBlock≠some wb:=fun e=>(h.o3 wb e).1 rfl
 have hro:fv.ownBlock≠some rb:=fun e=>(h.o3 rb e).2 rfl
 have hb5:=(m1.block wb hlp hwo).trans h.wr.blk;have hgn:g≠wb∧g≠rb∧mv.ownBlock≠some g∧sv.ownBlock≠some g:=by
  rcases ho with q|q
  ·exact⟨(h.o3 g q).1,(h.o3 g q).2,fun e=>(h.o1 g e).2.2.2 q,fun e=>(h.o2 g e).2.2 q⟩
  ·exact⟨by omega,by omega,fun e=>by have:=(Pr.row_lt h.m e).2;omega,fun e=>by have:=(Pr.row_lt h.n e).2;omega⟩
 obtain⟨n1,n2,n3,n4⟩:=hgn;have r_m:=ownsRow_keep (w':=(w5.setCell ⟨wb,6,none⟩ (.slice (some ⟨g,0,none⟩) n cap))) h.m fun q hq=>by
  have h1:=(Pr.row_lt h.m hq).2;exact(m2.block q (Nat.lt_of_lt_of_le h1 hg.size) (h.o1 q hq).1).trans (m1.block q h1 fun e=>(h.o1 q hq).2.2.2 e)
 have r_n:=ownsRow_keep (w':=(w5.setCell ⟨wb,6,none⟩ (.slice (some ⟨g,0,none⟩) n cap))) h.n fun q hq=>by
  have h1:=(Pr.row_lt h.n hq).2;exact(m2.block q (Nat.lt_of_lt_of_le h1 hg.size) (h.o2 q hq).1).trans (m1.block q h1 fun e=>(h.o2 q hq).2.2 e)
 have r_fl:=ownsRow_keep (w':=(w5.setCell ⟨wb,6,none⟩ (.slice (some ⟨g,0,none⟩) n cap))) hr fun q hq=>by
  cases hq;exact m2.block g (Pr.row_lt hr rfl).2 n1
 exact⟨by unfold World.frozen?;rw[hb5];simp,by unfold World.cell?;rw[hb5];rfl,⟨⟨heap_setCell_same w5 wb 6 _ _ _ hb5⟩,r_m,r_n,(h.r.mod m1 hro).mod m2 h.ne.symm,r_fl,h.b0,h.ne,fun q hq=>⟨(h.o1 q hq).1,(h.o1 q hq).2.1,(h.o1 q hq).2.2.1,fun e=>by cases e;exact n3 hq⟩,fun q hq=>⟨(h.o2 q hq).1,(h.o2 q hq).2.1,fun e=>by cases e;exact n4 hq⟩,fun q hq=>by cases hq;exact⟨n1,n2⟩⟩,(m1.mono fun q _ e=>.inr e).trans m2 fun q _ e=>.inl (.inl e)⟩
end Wo
theorem info_xp:(Tryz.prog.info? 32).map (fun i=>(i.zero,i.size,i.bytes))=some (some (.pointer none),1,8):=by kernel_rfl
theorem info_in:(Tryz.prog.info? 3).map (fun i=>(i.zero,i.size,i.bytes))=some (some (.int .i64 0),1,8):=by kernel_rfl
theorem wpList_app_xp{w:World}{ops:Array Oper}{rest:List Oper}{o:Oper}{a:Act}{Q:Exit→Act→World→Prop}(hgd:o.guard=none)(s x:Operand)
  (ho:o.op=.call { callee:=.builtin .append,args:= #[s,x],argTypes:= #[80,80] }) (base:Nat) (v:Value) (T:List (Option Nat)) (hs:a.eval s=v) (h:w.ownsRow base 32 1 v T.length (T.map Cl.ptr)) (b:Nat) (t:Nat)
  (hx:a.eval x=.slice (some ⟨b,0,none⟩) 1 1) (hb:w.heap[b]? =some (.cells #[.pointer (some ⟨t,0,none⟩)] 32 (0,0))) (hl:T.length≤1000000) (hbase:base≤w.heap.size)
  (H:∀g cap w',w'.ownsRow base 32 1 (.slice (some ⟨g,0,none⟩) (T.length+1) cap) (T++[some t]).length ((T++[some t]).map Cl.ptr)→w.grownBy w' v.ownBlock→(v.ownBlock=some g∨g=w.heap.size)→wpList Tryz.prog ops Q rest (a.put o.dst (.slice (some ⟨g,0,none⟩) (T.length+1) cap)) w'):wpList Tryz.prog ops Q (o::rest) a w:=by
 obtain⟨i0,hi,hz0,hz1,hz2⟩:=info_parts info_xp;refine wpList_append_lies w hgd s x _ ho base 32 i0 (.pointer none) 1 8 Tryz.underlying80 hi hz0 hz1 hz2 rfl (by omega) v T.length (T.map Cl.ptr) hs h ⟨b,0,none⟩ 1 1 [.pointer (some ⟨t,0,none⟩)] hx rfl (World.news_of_block hb) (fun x hx=>by simp at hx;subst hx;rfl) (by omega) (by unfold maxLen;omega) (by omega) hbase _ rfl fun g cap w' h2 h3 h4 h5=>H _ _ _ ?_ h3 h4
 rw[List.length_append,List.map_append];exact h2
def nl(tr:Nat→List Eve):Option Nat→Int
 |some b=>((tr b).length:Int)
 |none=>0
def Wr.NewP(w:World)(tr:Nat→List Eve)(L:List (Option Nat))(r:Ending)(w':World):Prop:=
 (L.Nodup∧∃wb mv sv rb,r=.returned (.tuple #[.pointer (some ⟨wb,0,none⟩),.int .i64 0])∧Wo w' w.heap.size wb 0 0 0 mv sv rb (.slice none 0 0) L (L.map (nl tr)) (fun _=>none) 0 []∧Below w.heap.size w w')∨
 (¬L.Nodup∧r=.returned (.tuple #[.pointer none,.int .i64 2])∧Below w.heap.size w w')
def Wr.nRel(w:World)(tr:Nat→List Eve)(L:List (Option Nat))(wb rb:Nat)(vi:Value)(wr:World):Prop:=
 ∃T U mv sv,L=T++U∧vi=.int .i64 T.length∧T.Nodup∧Wo wr w.heap.size wb 0 0 0 mv sv rb (.slice none 0 0) T (T.map (nl tr)) (fun _=>none) 0 []∧Below w.heap.size w wr
theorem Wo.new(w:World):Wo ((w.alloc (.map #[] 0)).alloc (.cells #[.int .i64 0,.int .i64 0,.int .i64 0,.slice none 0 0,.slice none 0 0,.map (some w.heap.size),.slice none 0 0] 84)) w.heap.size (w.heap.size+1) 0 0 0 (.slice none 0 0) (.slice none 0 0) w.heap.size (.slice none 0 0) [] [] (fun _=>none) 0 []∧Below w.heap.size w ((w.alloc (.map #[] 0)).alloc (.cells #[.int .i64 0,.int .i64 0,.int .i64 0,.slice none 0 0,.slice none 0 0,.map (some w.heap.size),.slice none 0 0] 84)):=by
 have h1:=Rt.new w;have g1:=(Below.refl w.heap.size w).alloc (Nat.le_refl _) (.map #[] 0);have e1:(w.alloc (.map #[] 0)).heap.size=w.heap.size+1:=by simp
 obtain⟨w1,hw1⟩:∃z,w.alloc (.map #[] 0)=z:=⟨_,rfl⟩;rw[hw1] at h1 g1 e1⊢;have h3:=heap_alloc_new w1 (.cells #[.int .i64 0,.int .i64 0,.int .i64 0,.slice none 0 0,.slice none 0 0,.map (some w.heap.size),.slice none 0 0] 84);have g3:=(Below.refl w1.heap.size w1).alloc (Nat.le_refl _) (.cells #[.int .i64 0,.int .i64 0,.int .i64 0,.slice none 0 0,.slice none 0 0,.map (some w.heap.size),.slice none 0 0] 84);rw[e1] at h3;exact⟨⟨⟨h3⟩,World.ownsRow_nil _ _ _ _,World.ownsRow_nil _ _ _ _,h1.mod (Mod.of_below g3 fun _=>False) id,World.ownsRow_nil _ _ _ _,⟨by omega,by omega⟩,by omega,fun g hg=>(nomatch hg),fun g hg=>(nomatch hg),fun g hg=>(nomatch hg)⟩,bQ g1 g3⟩
theorem Wr.new{w:World}(tr:Nat→List Eve){v:Value}{L:List (Option Nat)}(hp:Cl.Ptrs w v L)(h1:1≤L.length)(h8:L.length≤8)(hs:∀x,x∈L→∃b,x=some b)(hE:∀b,some b∈L→∃c t,w.heap[b]? =some (.cells c t (0,0)))(hT:∀b,some b∈L→∀V,Below w.heap.size w V→Calls Tryz.prog 36 #[.pointer (some ⟨b,0,none⟩)] V (Ex.TraceP V (tr b))):
  Calls Tryz.prog 47 #[v] w (Wr.NewP w tr L):=by
 have HC0:=Lh fun V (hV:Below w.heap.size w V)=>Cl.contains (hp.below hV) none (by omega) (fun b hb=>by
  rcases List.mem_cons.1 hb with hb|hb
  ·cases hb
  ·obtain⟨c,t,h⟩:=hE b hb;exact⟨c,t,(hV.block b (lQ h)).trans h⟩)
 have hno:decide (none∈L)=false:=decide_eq_false fun h=>by obtain⟨b,e⟩:=hs _ h;cases e
 rw[hno] at HC0;obtain⟨o,cc,rfl,hat⟩:=hp;have HFin1:=Lh fun V wb mv sv rb (g0:L.Nodup) (g1:Wo V w.heap.size wb 0 0 0 mv sv rb (.slice none 0 0) L (L.map (nl tr)) (fun _=>none) 0 []) (g2:Below w.heap.size w V)=>(show Wr.NewP w tr L (.returned (.tuple #[.pointer (some ⟨wb,0,none⟩),.int .i64 0])) V from .inl ⟨g0,wb,mv,sv,rb,rfl,g1,g2⟩)
 have HFin2:=Lh fun V (g0:¬L.Nodup) (g2:Below w.heap.size w V)=>(show Wr.NewP w tr L (.returned (.tuple #[.pointer none,.int .i64 2])) V from .inr ⟨g0,rfl,g2⟩)
 generalize Wr.NewP w tr L=PQ at*;have HAt:=Lh hat
 have HEe:=Lh hE;have HTt:=Lh hT;have HSs:=Lh hs;have hl1:¬((L.length:Int)<1):=by omega
 have hl8:¬((8:Int)<L.length):=by omega
 have hl9:(L.length:Int)≤8:=by omega
 obtain⟨hw0,hb0⟩:=Wo.new w;obtain⟨w1,hw1⟩:∃y,(w.alloc (.map #[] 0)).alloc (.cells #[.int .i64 0,.int .i64 0,.int .i64 0,.slice none 0 0,.slice none 0 0,.map (some w.heap.size),.slice none 0 0] 84)=y:=⟨_,rfl⟩;obtain⟨wb,hwb⟩:∃y,w.heap.size+1=y:=⟨_,rfl⟩;rw[hw1] at hw0 hb0;rw[hwb] at hw0;have HW0:=Lh (And.intro hw0 hb0);have HWw:=Lh hw1;have HWb:=Lh hwb;clear hat hE hT hs hno hw0 hb0 hw1 hwb;unfold Cl.ptr at HC0;have hmm:= @run_makeMap Tryz.prog;go_enter func47,ntmps47;go_wp2_with fail;rw[HWw.out,HWb.out];refine(HC0.out w1 HW0.out.2).mono ?_;rintro r w2 ⟨rfl,rfl⟩;go_wp2_with fail;go_loopw [22] (fun vi wr=>Wr.nRel w tr L wb w.heap.size vi wr) (fun vi wr=>L.length - (intOf vi).toNat)
 case atStart=>exact⟨[],L,_,_,rfl,rfl,List.nodup_nil,HW0.out.1,HW0.out.2⟩
 case round=>
  obtain⟨T,U,mv,sv,hTU,rfl,hnd,hwo,hbl⟩:=hrel;cases U with
  |nil=>
   rw[List.append_nil] at hTU;have hno:¬((T.length:Int)<L.length):=by rw[hTU];omega
   have HE:=Lh (HFin1.out wr wb mv sv w.heap.size (by rw[hTU];exact hnd) (by rw[hTU];exact hwo) hbl);clear hTU hnd hwo hbl;go_wp2;exact HE.out
  |cons x U=>
   obtain⟨b,rfl⟩:=HSs.out x (by rw[hTU];simp);obtain⟨g,rfl,hgl,hx⟩:=HAt.out T (some b) U hTU;have hxr:wr.cell? ⟨g,T.length,none⟩=some (.pointer (some ⟨b,0,none⟩)):=(hbl.cell (p:=⟨g,T.length,none⟩) hgl).trans hx;obtain⟨c0,c1,c2,c3,c4,c5,c6,cf⟩:=hwo.wr.cells;have htl:T.length<L.length:=by rw[hTU,List.length_append,List.length_cons];omega
   have hin:(T.length:Int)<L.length:=by omega
   obtain⟨mo,mc,rfl⟩:=Pr.row_shape hwo.m;obtain⟨so,sc,rfl⟩:∃so sc,sv=.slice so T.length sc:=by
    obtain⟨o,c,e⟩:=Pr.row_shape hwo.n;exact⟨o,c,by rw[e,List.length_map]⟩
   have HCn:=Lh (Cl.contains (Cl.Ptrs.of_own hwo.m) (some b) (by omega) (fun d hd=>by
    have:some d∈L:=by
     rcases List.mem_cons.1 hd with hd|hd
     ·rw[hd,hTU];simp
     ·rw[hTU];simp[hd]
    obtain⟨c,t,h⟩:=HEe.out d this;exact⟨c,t,(hbl.block d (lQ h)).trans h⟩))
   unfold Cl.ptr at HCn;have HTU:=Lh hTU;have HNd:=Lh hnd;have HWo:=Lh hwo;have HBl:=Lh hbl
   by_cases hmem:some b∈T
   ·rw[decide_eq_true hmem] at HCn;have HE:=Lh (HFin2.out wr (fun hn=>by
     rw[hTU] at hn;exact(List.nodup_append.1 hn).2.2 _ hmem _ (by simp) rfl) hbl)
    clear hTU hnd hwo hbl hmem hx hgl;go_wp2_with fail;refine HCn.out.mono ?_;rintro r w3 ⟨rfl,rfl⟩;go_wp2;exact HE.out
   ·rw[decide_eq_false hmem] at HCn;have hA:=(Below.refl wr.heap.size wr).alloc (Nat.le_refl _) (.cells #[.pointer (some ⟨b,0,none⟩)] 32);have HN:=Lh (heap_alloc_new wr (.cells #[.pointer (some ⟨b,0,none⟩)] 32));have HW7:=Lh (hwo.below hA);have HB7:=Lh (bQ hbl hA);have HT7:Hid (T.length≤1000000):=Lh (by omega);have HS7:=Lh HB7.out.size;have HMm:=Lh hmem;clear hTU hnd hwo hbl hmem hx hgl hA;go_wp2_with fail;refine HCn.out.mono ?_;rintro r w3 ⟨rfl,rfl⟩;go_upto_region 12 with(at_builtin;refine wpList_app_xp (by rfl) _ _ (by rfl) w.heap.size _ T (by rfl) HW7.out.m _ b (by rfl) HN.out HT7.out HS7.out ?_;intro g9 cap9 w9 hr9 hg9 ho9;obtain⟨d0,d1,d2,d3⟩:=HW7.out.setM hg9 hr9 (ho9.imp id fun q=>Nat.le_of_eq q.symm);have HD2:=Lh d2;have HD3:=Lh d3;clear d2 d3 hr9 hg9 ho9 c3);generalize w9.setCell ⟨wb,3,none⟩ (.slice (some ⟨g9,0,none⟩) (T.length+1) cap9)=w10 at*;have hB10:Below w.heap.size w w10:=Mod.below HB7.out HD3.out HB7.out.size fun i _ e=>e.elim (fun q=>q▸HW7.out.b0.1) fun q=>(Pr.row_lt HW7.out.m q).1
    obtain⟨e0,e1,e2,e3,e4,e5,e6,ef⟩:=HD2.out.wr.cells;have HBm:Hid (some b∈L):=Lh (by rw[HTU.out];simp);refine LB (fun V=>V.cell? ⟨wb,4,none⟩=some (.slice so T.length sc)∧True) 12 ⟨e4,trivial⟩ fun wd hwd hS=> ?_
    have HBw:=Lh (show Below w10.heap.size w10 wd by rw[hwd];exact Br.drew);have HB10:=Lh hB10;clear hwd d0 d1 e0 e1 e2 e3 e4 e5 e6 ef hB10 c0 c1 c2 c4 c5 c6 cf;refine LT 0 hS ?_;refine LT 1 hS ?_;refine LT 2 hS ?_;refine LT 3 hS ?_;refine LT 4 hS ?_;refine LT 5 hS ?_;refine LU 6 fun K hK=> ?_
    go_simp;go_at_call 36;refine(HTt.out b HBm.out wd (bQ HB10.out HBw.out)).mono ?_;rintro r w11 ⟨tv,rfl,hsl,hb11⟩;obtain⟨ta,tc,rfl⟩:=hsl.form;have HB11:=Lh (bQ HBw.out hb11);have HW11:=Lh (HD2.out.below HB11.out);have hS11:w11.cell? ⟨wb,4,none⟩=some (.slice so T.length sc)∧True:=⟨HW11.out.wr.cells.2.2.2.2.1,trivial⟩;clear hsl hb11 hS;refine LV hK (fun _=>hS11) ?_;clear hK K;refine LU 7 fun K hK=> ?_
    go_simp;refine LV hK (fun _=>hS11) ?_;clear hK K;refine LU 8 fun K hK=> ?_
    go_simp;have hA12:=(Below.refl w11.heap.size w11).alloc (Nat.le_refl _) (.cells #[.int .i64 (tr b).length] 3);have HN12:=Lh (heap_alloc_new w11 (.cells #[.int .i64 (tr b).length] 3));have HW12:=Lh (HW11.out.below hA12);have hS12:(w11.alloc (.cells #[.int .i64 (tr b).length] 3)).cell? ⟨wb,4,none⟩=some (.slice so T.length sc)∧True:=⟨HW12.out.wr.cells.2.2.2.2.1,trivial⟩;have HB12:=Lh (bQ HB10.out (bQ HB11.out hA12));clear hA12 hS11;refine LV hK (fun _=>hS12) ?_;clear hK K;refine LU 9 fun K hK=> ?_
    obtain⟨i0,hi,hz0,hz1,hz2⟩:=info_parts info_in;refine step_append_lies _ (by rfl) _ _ _ (by rfl) w.heap.size 3 i0 (.int .i64 0) 1 8 Tryz.underlying81 hi hz0 hz1 hz2 rfl (by omega) (.slice so T.length sc) T.length ((T.map (nl tr)).map encI) (by rfl) (by have:=HW12.out.n;rw[List.length_map] at this;exact this) ⟨w11.heap.size,0,none⟩ 1 1 [.int .i64 (tr b).length] (by rfl) (by rfl) (World.news_of_block HN12.out) (fun u hu=>by simp at hu;subst hu;rfl) (by omega) (by have:=HT7.out;unfold maxLen;omega) (by have:=HT7.out;omega) HB12.out.size _ rfl ?_;intro g13 cap13 w13 hr13 hg13 ho13 _;have hN13:(T.map (nl tr)).map encI++[.int .i64 (tr b).length]=(((T++[some b]).map (nl tr))).map encI:=by simp[encI,nl]
    rw[hN13] at hr13;have hr14:w13.ownsRow w.heap.size 3 1 (.slice (some ⟨g13,0,none⟩) (T.length+1) cap13) ((T++[some b]).map (nl tr)).length (((T++[some b]).map (nl tr)).map encI):=by
     rw[List.length_map,List.length_append];exact hr13
    obtain⟨d0,d1,d2,d3⟩:=HW12.out.setN hg13 hr14 (ho13.imp id fun q=>Nat.le_of_eq q.symm);have HE2:=Lh d2;have hB14:Below w.heap.size w (w13.setCell ⟨wb,4,none⟩ (.slice (some ⟨g13,0,none⟩) (T.length+1) cap13)):=Mod.below HB12.out d3 HB12.out.size fun i _ e=>e.elim (fun q=>q▸HW12.out.b0.1) fun q=>(Pr.row_lt HW12.out.n q).1
    have HB14:=Lh hB14;have hS13:w13.cell? ⟨wb,4,none⟩=some (.slice so T.length sc)∧True:=⟨d1,trivial⟩;clear hr13 hr14 hg13 ho13 hN13 d2 d3 hB14 hS12;refine LV hK (fun _=>hS13) ?_;clear hK K;refine LU 10 fun K hK=> ?_
    go_simp;refine LV hK (fun _=>hS13) ?_;clear hK K;refine LT 11 hS13 ?_;refine LU 12 fun K hK=> ?_
    go_simp;generalize w13.setCell ⟨wb,4,none⟩ (.slice (some ⟨g13,0,none⟩) (T.length+1) cap13)=w14 at*;refine LV hK (fun e=>absurd rfl e) ?_;clear hK K;refine E_done (by kernel_rfl) ?_ _;have HRel:Hid (Wr.nRel w tr L wb w.heap.size (.int .i64 ((T.length:Int)+1)) w14):=Lh ⟨T++[some b],U,_,_,by rw[HTU.out];simp,by rw[List.length_append];rfl,List.nodup_append.2 ⟨HNd.out,by simp,fun x hx y hy e=>by simp at hy;subst hy;exact HMm.out (e▸hx)⟩,HE2.out,HB14.out⟩;clear hS13 d0 d1;go_wp2;go_roundw
    case rel=>exact HRel.out
    case measure=>
     simp only[intOf];omega
end Go.Proofs.YtnpicaigdfnmfaaGreat
namespace Go.Proofs.YtnpicaigdfnmfaaGreat.Wr
open Go.RowKit Word Cp Pr
def HardR(w:World)(r:Ending)(w':World):Prop:=∃g,r=.returned (.agg #[.int .u32 100,.slice (some ⟨g,0,none⟩) 1 1])∧Rs.Words w' (some ⟨g,0,none⟩) [4]∧w.heap.size≤g∧g<w'.heap.size∧Below w.heap.size w w'
theorem hard(w:World):Calls Tryz.prog 75 #[] w (HardR w):=by
 go_enter func75,ntmps75;go_wp2;obtain⟨wa,hwa⟩:∃y,w.alloc (.cells #[.int .u32 100,.slice (some ⟨w.heap.size+1,0,none⟩) 1 1] 120)=y:=⟨_,rfl⟩;have g1:wa.heap[w.heap.size]? =some (.cells #[.int .u32 100,.slice (some ⟨w.heap.size+1,0,none⟩) 1 1] 120 (0,0)):=by rw[←hwa];exact heap_alloc_new w _
 have g2:wa.heap.size=w.heap.size+1:=by rw[←hwa];simp
 have g3:Below w.heap.size w wa:=by rw[←hwa];exact(Below.refl w.heap.size w).alloc (Nat.le_refl _) _
 rw[hwa];have g4:=(Below.refl wa.heap.size wa).alloc (Nat.le_refl _) (.cells #[.int .u32 4] 42);have h1:=(g4.block _ (lQ g1)).trans g1;have h2:=heap_alloc_new wa (.cells #[.int .u32 4] 42);rw[g2] at h2;refine bodyPost_ret (results_one Tryz.results75 rfl (load2 h1)) rfl ⟨w.heap.size+1,rfl,⟨fun i hi=>⟨_,0,rfl, ?_⟩,by decide⟩,by omega,lQ h2,bQ g3 g4⟩;unfold World.cell?;rw[h2]
 match i,hi with
 |0,_=>rfl
 |i+1,hi=>exact absurd hi (by simp)
def fr38(x y:Int):List Int:=[0,0,0,0,0,0,0,0,0,0,0,0,0,0,0,0,0,0,0,0,0,x,0,y]
theorem fr79:strOfNums (fr38 7 9)=f38 7 9:=by kernel_rfl
theorem fr78:strOfNums (fr38 7 8)=f38 7 8:=by kernel_rfl
theorem str24(W:World)(g:Nat)(x y:Int)(h:W.heap[g]? =some (.cells ((fr38 x y).map (Value.int .u8)).toArray 5 (0,0))):
  (convert 43 9 (.slice (some ⟨g,0,none⟩) 24 24)).run Tryz.prog W=.ok (.string (strOfNums (fr38 x y))) W:=by
 refine run_convert_bytes_arg W 43 5 Tryz.underlying43 Tryz.underlying5 g 0 24 24 (fr38 x y) rfl (fun i hi=> ?_) 9 Tryz.underlying9;unfold World.cell?;rw[h]
 show((fr38 x y).map (Value.int .u8)).toArray[0+i]? =_
 rw[Nat.zero_add,List.getElem?_toArray,List.getElem?_map,List.getD_eq_getElem?_getD,Zg (show i<(fr38 x y).length from hi)];rfl
theorem frame(x y:Int)(w:World):Calls Tryz.prog 49 #[.int .u8 x,.int .u8 y] w fun r w'=>r=.returned (.string (strOfNums (fr38 x y)))∧Below w.heap.size w w':=by
 have hmk:∀W:World,(Instr.makeSlice 43 (.int .i64 24) (.int .i64 24)).run Tryz.prog W=.ok (.slice (some ⟨W.heap.size,0,none⟩) 24 24) (W.alloc (.cells (List.replicate 24 (Value.int .u8 0)).toArray 5)):=fun W=>run_makeBytes 24 (by decide) W
 obtain⟨arr,harr⟩:∃arr,arr=(List.replicate 24 (Value.int .u8 0)).toArray:=⟨_,rfl⟩;rw[←harr] at hmk;have HArr:=Lh harr;clear harr;go_enter func49,ntmps49;go_upto_region 2 with(fail);have hb1:=(Below.refl w.heap.size w).alloc (Nat.le_refl _) (.cells arr 5);have hn1:=heap_alloc_new w (.cells arr 5);obtain⟨w1,hw1⟩:∃q,w.alloc (.cells arr 5)=q:=⟨_,rfl⟩;obtain⟨b,hb⟩:∃q,w.heap.size=q:=⟨_,rfl⟩;rw[hw1] at hb1 hn1⊢;rw[hb] at hn1⊢;have c21:w1.cell? ⟨b,21,none⟩=some (.int .u8 0):=by unfold World.cell?;rw[hn1,HArr.out];rfl
 have f21:w1.frozen? ⟨b,21,none⟩=false:=by unfold World.frozen?;rw[hn1];simp
 have hn2:=heap_setCell_same w1 b 21 _ _ (.int .u8 x) hn1;have hm2:Mod (fun q=>q=b) w1 (w1.setCell ⟨b,21,none⟩ (.int .u8 x)):=Mod.setCell (F:=fun q=>q=b) (Mod.refl _ _) ⟨b,21,none⟩ (.inl rfl) _;have HB:=Lh hb;have HB1:=Lh hb1;have HM2:=Lh hm2;clear hw1 hb hb1 hm2 hn1;go_upto_region 3 with(fail);generalize w1.setCell ⟨b,21,none⟩ (.int .u8 x)=w2 at*;clear c21 f21;have c23:w2.cell? ⟨b,23,none⟩=some (.int .u8 0):=by unfold World.cell?;rw[hn2,HArr.out];rfl
 have f23:w2.frozen? ⟨b,23,none⟩=false:=by unfold World.frozen?;rw[hn2];simp
 have hn3:=heap_setCell_same w2 b 23 _ _ (.int .u8 y) hn2;have hm3:Mod (fun q=>q=b) w2 (w2.setCell ⟨b,23,none⟩ (.int .u8 y)):=Mod.setCell (F:=fun q=>q=b) (Mod.refl _ _) ⟨b,23,none⟩ (.inl rfl) _;have HM3:=Lh hm3;clear hm3 hn2;go_upto_region 4 with(fail);generalize w2.setCell ⟨b,23,none⟩ (.int .u8 y)=w3 at*;clear c23 f23;have hcv:=str24 w3 b x y (by rw[hn3,HArr.out];rfl);have hbl:Below w.heap.size w w3:=by
  have z2:=Mod.below HB1.out HM2.out HB1.out.size fun i _ e=>by have:=HB.out;omega
  exact Mod.below z2 HM3.out z2.size fun i _ e=>by have:=HB.out;omega
 have HE:=Lh hbl;clear hn3 hbl;go_wp2;go_ret;exact⟨rfl,HE.out⟩
end Go.Proofs.YtnpicaigdfnmfaaGreat.Wr
namespace Go.Proofs.YtnpicaigdfnmfaaGreat.Wr
open Go.RowKit Word Cp Pr
theorem info_ins:(Tryz.prog.info? 116).map (fun i=>(i.zero,i.size,i.bytes))=some (some (.agg #[.int .u8 0,.int .u8 0,.int .u8 0,.int .u8 0,.int .u32 0]),5,8):=by kernel_rfl
def pm38:Array Value:= #[.int .u8 8,.int .u8 4,.int .u8 1]
def i3(x:Int):List Value:=[.int .u8 32,.int .u8 1,.int .u8 0,.int .u8 0,.int .u32 x,.int .u8 32,.int .u8 2,.int .u8 0,.int .u8 0,.int .u32 24,.int .u8 50,.int .u8 0,.int .u8 0,.int .u8 0,.int .u32 7]
theorem code38_ok(i:Nat):(code38 i).ok:=by
 unfold code38
 repeat' split
 all_goals exact⟨by decide,by decide,by decide,by decide,by decide,by decide,by decide,by decide,by decide,by decide⟩
theorem st38_ok{w:World}{base P C cap:Nat}(h0:w.heap[P]? =some (.cells pm38 5 (0,0)))(h1:w.ownsRow base 116 5 (.slice (some ⟨C,0,none⟩) 6 cap) 6 (i3 512++i3 536)):(st38 P C cap).ok w where
 rrow:=fun h=>absurd h (Nat.not_lt_zero _)
 rbd:=fun i hi=>absurd hi (Nat.not_lt_zero _)
 rlen:=(by decide:(0:Nat)≤9223372036854775807)
 p0:=(by decide:(0:Int)≤256)
 p1:=(by decide:(256:Int)≤4294967295)
 prow:=fun _=>⟨P,0,rfl,lQ h0,fun i hi=>by
  have:i=0∨i=1∨i=2:=by have:i<3:=hi;omega
  rcases this with rfl|rfl|rfl<;>(unfold World.cell?;rw[h0];rfl)⟩
 pbd:=fun i hi=>by
  show 0≤perm38 i∧perm38 i≤255
  unfold perm38
  split
  ·omega
  ·split<;>omega
 plen:=(by decide:3≤16)
 a0:=(by decide:(0:Int)≤256)
 a1:=(by decide:(256:Int)≤65535)
 crow:=fun _=>⟨C,0,rfl,fun i hi=>by
  have hi:i<6:=hi;rcases h1.2 with⟨e,_⟩|⟨g,cap',cur,e,_,hg,q1,q2,q3,q4⟩
  ·cases e
  cases e;have hc:∀j,j<30→w.cell? ⟨C,0+j,none⟩=(i3 512++i3 536)[j]? :=fun j hj=>by
   rw[←q4,List.getElem?_take_of_lt (by omega)];unfold World.cell?;rw[hg]
   simp
  have:i=0∨i=1∨i=2∨i=3∨i=4∨i=5:=by omega
  rcases this with rfl|rfl|rfl|rfl|rfl|rfl
  ·exact⟨hc 0 (by omega),hc 1 (by omega),hc 2 (by omega),hc 3 (by omega),hc 4 (by omega)⟩
  ·exact⟨hc 5 (by omega),hc 6 (by omega),hc 7 (by omega),hc 8 (by omega),hc 9 (by omega)⟩
  ·exact⟨hc 10 (by omega),hc 11 (by omega),hc 12 (by omega),hc 13 (by omega),hc 14 (by omega)⟩
  ·exact⟨hc 15 (by omega),hc 16 (by omega),hc 17 (by omega),hc 18 (by omega),hc 19 (by omega)⟩
  ·exact⟨hc 20 (by omega),hc 21 (by omega),hc 22 (by omega),hc 23 (by omega),hc 24 (by omega)⟩
  ·exact⟨hc 25 (by omega),hc 26 (by omega),hc 27 (by omega),hc 28 (by omega),hc 29 (by omega)⟩⟩
 cbd:=fun i hi=>code38_ok i
 clen:=(by decide:6≤1000)
 w0:=(by decide:(0:Int)≤512)
 w1:=(by decide:(512:Int)≤65535)
 tlen:=(by show text38.size≤65536;decide)
theorem load_st{w:World}{b:Nat}{x0 x1 x2 x3 x4 x5 x6:Value}(h:w.heap[b]? =some (.cells #[x0,x1,x2,x3,x4,x5,x6] 46 (0,0))):(loadVar 46 ⟨b,0,none⟩).run Tryz.prog w=.ok (.agg #[x0,x1,x2,x3,x4,x5,x6]) w:=by
 have hr:w.rangeAt b 0 [x0,x1,x2,x3,x4,x5,x6]:=fun j v hv=>by
  rw[Nat.zero_add];unfold World.cell?;rw[h]
  match j,hv with
  |0,hv=>cases hv;rfl
  |1,hv=>cases hv;rfl
  |2,hv=>cases hv;rfl
  |3,hv=>cases hv;rfl
  |4,hv=>cases hv;rfl
  |5,hv=>cases hv;rfl
  |6,hv=>cases hv;rfl
  |j+7,hv=>simp at hv
 have:=run_loadVar_mid (P:=Tryz.prog) w b 0 46 _ _ hr Tryz.underlying46 rfl (by kernel_rfl);exact this
def zst:Array Value:= #[.slice none 0 0,.int .u32 0,.slice none 0 0,.int .u16 0,.slice none 0 0,.int .u16 0,.string { data:= #[] }]
theorem nest38(w:World):((w.alloc (.cells zst 46)).alloc (.cells pm38 5)).heap[w.heap.size]? =some (.cells zst 46 (0,0))∧((w.alloc (.cells zst 46)).alloc (.cells pm38 5)).heap[w.heap.size+1]? =some (.cells pm38 5 (0,0))∧Below w.heap.size w ((w.alloc (.cells zst 46)).alloc (.cells pm38 5))∧w.heap.size+2≤((w.alloc (.cells zst 46)).alloc (.cells pm38 5)).heap.size:=by
 have a1:=heap_alloc_new w (.cells zst 46);have s1:(w.alloc (.cells zst 46)).heap.size=w.heap.size+1:=by simp
 have b1:=(Below.refl w.heap.size w).alloc (Nat.le_refl _) (.cells zst 46);generalize w.alloc (.cells zst 46)=w1 at*;have a2:=heap_alloc_new w1 (.cells pm38 5);have s2:(w1.alloc (.cells pm38 5)).heap.size=w.heap.size+2:=by simp[s1]
 have b2:=(Below.refl w1.heap.size w1).alloc (Nat.le_refl _) (.cells pm38 5);rw[s1] at a2;exact⟨by rw[b2.block _ (by omega)];exact a1,a2,b1.trans (b2.mono (by omega)),by omega⟩
theorem set7{w:World}{b:Nat}{y0 y1 y2 y3 y4 y5 y6:Value}(h:w.heap[b]? =some (.cells #[y0,y1,y2,y3,y4,y5,y6] 46 (0,0)))(x0 x1 x2 x3 x4 x5 x6:Value):(((((((w.setCell ⟨b,0,none⟩ x0).setCell ⟨b,1,none⟩ x1).setCell ⟨b,2,none⟩ x2).setCell ⟨b,3,none⟩ x3).setCell ⟨b,4,none⟩ x4).setCell ⟨b,5,none⟩ x5).setCell ⟨b,6,none⟩ x6).heap[b]? =some (.cells #[x0,x1,x2,x3,x4,x5,x6] 46 (0,0))∧Mod (fun q=>q=b) w (((((((w.setCell ⟨b,0,none⟩ x0).setCell ⟨b,1,none⟩ x1).setCell ⟨b,2,none⟩ x2).setCell ⟨b,3,none⟩ x3).setCell ⟨b,4,none⟩ x4).setCell ⟨b,5,none⟩ x5).setCell ⟨b,6,none⟩ x6):=by
 have h0:(w.setCell ⟨b,0,none⟩ x0).heap[b]? =some (.cells #[x0,y1,y2,y3,y4,y5,y6] 46 (0,0)):=heap_setCell_same _ b 0 _ _ x0 h;have h1:((w.setCell ⟨b,0,none⟩ x0).setCell ⟨b,1,none⟩ x1).heap[b]? =some (.cells #[x0,x1,y2,y3,y4,y5,y6] 46 (0,0)):=heap_setCell_same _ b 1 _ _ x1 h0;have h2:(((w.setCell ⟨b,0,none⟩ x0).setCell ⟨b,1,none⟩ x1).setCell ⟨b,2,none⟩ x2).heap[b]? =some (.cells #[x0,x1,x2,y3,y4,y5,y6] 46 (0,0)):=heap_setCell_same _ b 2 _ _ x2 h1;have h3:((((w.setCell ⟨b,0,none⟩ x0).setCell ⟨b,1,none⟩ x1).setCell ⟨b,2,none⟩ x2).setCell ⟨b,3,none⟩ x3).heap[b]? =some (.cells #[x0,x1,x2,x3,y4,y5,y6] 46 (0,0)):=heap_setCell_same _ b 3 _ _ x3 h2;have h4:(((((w.setCell ⟨b,0,none⟩ x0).setCell ⟨b,1,none⟩ x1).setCell ⟨b,2,none⟩ x2).setCell ⟨b,3,none⟩ x3).setCell ⟨b,4,none⟩ x4).heap[b]? =some (.cells #[x0,x1,x2,x3,x4,y5,y6] 46 (0,0)):=heap_setCell_same _ b 4 _ _ x4 h3;have h5:((((((w.setCell ⟨b,0,none⟩ x0).setCell ⟨b,1,none⟩ x1).setCell ⟨b,2,none⟩ x2).setCell ⟨b,3,none⟩ x3).setCell ⟨b,4,none⟩ x4).setCell ⟨b,5,none⟩ x5).heap[b]? =some (.cells #[x0,x1,x2,x3,x4,x5,y6] 46 (0,0)):=heap_setCell_same _ b 5 _ _ x5 h4;have h6:(((((((w.setCell ⟨b,0,none⟩ x0).setCell ⟨b,1,none⟩ x1).setCell ⟨b,2,none⟩ x2).setCell ⟨b,3,none⟩ x3).setCell ⟨b,4,none⟩ x4).setCell ⟨b,5,none⟩ x5).setCell ⟨b,6,none⟩ x6).heap[b]? =some (.cells #[x0,x1,x2,x3,x4,x5,x6] 46 (0,0)):=heap_setCell_same _ b 6 _ _ x6 h5;exact⟨h6,Mod.setCell (F:=fun q=>q=b) (Mod.setCell (F:=fun q=>q=b) (Mod.setCell (F:=fun q=>q=b) (Mod.setCell (F:=fun q=>q=b) (Mod.setCell (F:=fun q=>q=b) (Mod.setCell (F:=fun q=>q=b) (Mod.setCell (F:=fun q=>q=b) (Mod.refl _ _) ⟨b,0,none⟩ (.inl rfl) _) ⟨b,1,none⟩ (.inl rfl) _) ⟨b,2,none⟩ (.inl rfl) _) ⟨b,3,none⟩ (.inl rfl) _) ⟨b,4,none⟩ (.inl rfl) _) ⟨b,5,none⟩ (.inl rfl) _) ⟨b,6,none⟩ (.inl rfl) _⟩
theorem st_cells{w:World}{b:Nat}{y0 y1 y2 y3 y4 y5 y6:Value}(h:w.heap[b]? =some (.cells #[y0,y1,y2,y3,y4,y5,y6] 46 (0,0))):w.cell? ⟨b,0,none⟩=some y0∧w.cell? ⟨b,1,none⟩=some y1∧w.cell? ⟨b,2,none⟩=some y2∧w.cell? ⟨b,3,none⟩=some y3∧w.cell? ⟨b,4,none⟩=some y4∧w.cell? ⟨b,5,none⟩=some y5∧w.cell? ⟨b,6,none⟩=some y6∧∀j,w.frozen? ⟨b,j,none⟩=false:=by
 unfold World.cell? World.frozen?;rw[h];exact⟨rfl,rfl,rfl,rfl,rfl,rfl,rfl,fun j=>by simp[h]⟩
theorem i3_one(x:Int):∀u,u∈i3 x→u.oneCell'=true:=by
 intro u hu;simp only[i3,List.mem_cons,List.not_mem_nil,or_false] at hu;rcases hu with rfl|rfl|rfl|rfl|rfl|rfl|rfl|rfl|rfl|rfl|rfl|rfl|rfl|rfl|rfl<;>rfl
def SenderP(w:World)(r:Ending)(w':World):Prop:=
 ∃P C cap,r=.returned (.agg (st38 P C cap).cells)∧(∀V,Below w'.heap.size w' V→(st38 P C cap).ok V)∧Below w.heap.size w w'
theorem sender(w:World):Calls Tryz.prog 44 #[] w (SenderP w):=by
 generalize hPQ:SenderP w=PQ;have HFin:=Lh fun V P C cap (g1:∀W,Below V.heap.size V W→(st38 P C cap).ok W) (g2:Below w.heap.size w V)=>(show PQ (.returned (.agg (st38 P C cap).cells)) V from by rw[←hPQ];exact⟨P,C,cap,rfl,g1,g2⟩)
 clear hPQ;have HF:=Lh frame;go_enter func44,ntmps44;go_wp2_with fail;refine(fun(F:∀V,V.heap[w.heap.size]? =some (.cells zst 46 (0,0))→V.heap[w.heap.size+1]? =some (.cells pm38 5 (0,0))→Below w.heap.size w V→w.heap.size+2≤V.heap.size→Calls Tryz.prog _ _ V _)=>F _ (nest38 w).1 (nest38 w).2.1 (nest38 w).2.2.1 (nest38 w).2.2.2) ?_;intro w1 h0 h1 hb1 hs1;refine(HF.out 7 9 w1).mono ?_;rintro r w2 ⟨rfl,hb2⟩;rw[fr79];go_wp2_with fail;refine(HF.out 7 8 w2).mono ?_;rintro r w3 ⟨rfl,hb3⟩;rw[fr78];have hz1:(f38 7 9).size=24:=rfl;have hz2:(f38 7 8).size=24:=rfl;have hb13:=bQ hb2 hb3;have HR0:=Lh ((hb13.block _ (lQ h0)).trans h0);have HP0:=Lh ((hb13.block _ (lQ h1)).trans h1);have HB3:=Lh (hb1.trans (hb13.mono hb1.size));have HS3:=Lh (Nat.le_trans hs1 hb13.size);clear h0 h1 hb1 hs1 hb2 hb3 hb13;go_upto_region 2 with(fail);have hA:=(Below.refl w3.heap.size w3).alloc (Nat.le_refl _) (.cells #[.slice none 0 0,.int .u32 256,.slice (some ⟨w.heap.size+1,0,none⟩) 3 3,.int .u16 256,.slice none 0 0,.int .u16 512,.string (f38 7 9++f38 7 8)] 46);have hN:=heap_alloc_new w3 (.cells #[.slice none 0 0,.int .u32 256,.slice (some ⟨w.heap.size+1,0,none⟩) 3 3,.int .u16 256,.slice none 0 0,.int .u16 512,.string (f38 7 9++f38 7 8)] 46);obtain⟨w4,hw4⟩:∃q,w3.alloc (.cells #[.slice none 0 0,.int .u32 256,.slice (some ⟨w.heap.size+1,0,none⟩) 3 3,.int .u16 256,.slice none 0 0,.int .u16 512,.string (f38 7 9++f38 7 8)] 46)=q:=⟨_,rfl⟩;obtain⟨sb,hsb⟩:∃q,w3.heap.size=q:=⟨_,rfl⟩;rw[hw4] at hA hN⊢;rw[hsb] at hN⊢;have HN4:=Lh hN;have HSb:Hid (w.heap.size+2≤sb):=Lh (by have:=HS3.out;omega);have HR4:=Lh ((hA.block _ (lQ HR0.out)).trans HR0.out);have HP4:=Lh ((hA.block _ (lQ HP0.out)).trans HP0.out);have HB4:=Lh (HB3.out.trans (hA.mono HB3.out.size));clear hA hN hw4 hsb HR0 HP0 HB3 HS3 hz1 hz2;obtain⟨tx,htx⟩:∃q,f38 7 9++f38 7 8=q:=⟨_,rfl⟩;rw[htx] at HN4⊢;have HTx:=Lh htx;clear htx;obtain⟨i0,hi,hz0,hz1,hz2⟩:=info_parts info_ins;have HIn:=Lh (And.intro hi (And.intro hz0 (And.intro hz1 hz2)));clear hi hz0 hz1 hz2;go_wp2_with fail;refine wp_loop_rounds 3 ?_;rw[rounds_succ];obtain⟨_,_,_,_,c4,_,_,cf⟩:=st_cells HN4.out;have cf4:=cf 4;clear cf;have hA5:=(Below.refl w4.heap.size w4).alloc (Nat.le_refl _) (.cells (i3 512).toArray 116);have HA5:=Lh hA5;have HN5:=Lh (heap_alloc_new w4 (.cells (i3 512).toArray 116));clear hA5;go_upto_region 4 with(at_builtin;refine wpList_append_lies _ (by rfl) _ _ _ (by rfl) w.heap.size 116 i0 (.agg #[.int .u8 0,.int .u8 0,.int .u8 0,.int .u8 0,.int .u32 0]) 5 8 Tryz.underlying44 HIn.out.1 HIn.out.2.1 HIn.out.2.2.1 HIn.out.2.2.2 rfl (by omega) (.slice none 0 0) 0 [] (by rfl) (World.ownsRow_nil _ _ _ _) ⟨w4.heap.size,0,none⟩ 3 3 (i3 512) (by rfl) (by rfl) (World.news_of_block HN5.out) (i3_one 512) (by omega) (by decide) (by omega) (Nat.le_trans HB4.out.size HA5.out.size) _ rfl ?_;intro g5 cap5 w5 hr5 hg5 ho5 hl5;have hn5:=(hg5.block sb (Nat.lt_of_lt_of_le (lQ HN4.out) HA5.out.size) (fun e=>by cases e)).trans ((HA5.out.block sb (lQ HN4.out)).trans HN4.out);clear c4 cf4;obtain⟨_,_,_,_,c4,_,_,cf⟩:=st_cells hn5;have cf4:=cf 4;have HR5:=Lh hr5;have HG5:=Lh hg5;have HO5:=Lh ho5;have HX5:=Lh hn5;clear hr5 hg5 ho5 hl5 hn5 cf);have hg5s:g5≠sb∧sb<w5.heap.size∧sb<g5:=by
  have h1:=lQ HN4.out;rcases HO5.out with q|q
  ·cases q
  ·have:w4.heap.size<g5:=by rw[q];simp
   exact⟨by omega,lQ HX5.out,by omega⟩
 have hx6:=heap_setCell_same w5 sb 4 _ _ (.slice (some ⟨g5,0,none⟩) 3 cap5) HX5.out;have hm6:Mod (fun q=>q=sb) w5 (w5.setCell ⟨sb,4,none⟩ (.slice (some ⟨g5,0,none⟩) 3 cap5)):=Mod.setCell (F:=fun q=>q=sb) (Mod.refl _ _) ⟨sb,4,none⟩ (.inl rfl) _;have hr6:(w5.setCell ⟨sb,4,none⟩ (.slice (some ⟨g5,0,none⟩) 3 cap5)).ownsRow w.heap.size 116 5 (.slice (some ⟨g5,0,none⟩) 3 cap5) 3 (i3 512):=ownsRow_keep (show w5.ownsRow w.heap.size 116 5 (.slice (some ⟨g5,0,none⟩) 3 cap5) 3 (i3 512) from HR5.out) fun q hq=>by
  cases hq;exact hm6.block g5 (row_lt HR5.out rfl).2 hg5s.1
 have hm56:Mod (fun q=>q=sb) w4 (w5.setCell ⟨sb,4,none⟩ (.slice (some ⟨g5,0,none⟩) 3 cap5)):=by
  have z1:=Mod.of_below HA5.out (fun q=>q=sb);have z2:Mod (fun _=>False) (w4.alloc (.cells (i3 512).toArray 116)) w5:=⟨HG5.out.os,HG5.out.tape,HG5.out.output,HG5.out.size,fun q hq _=>HG5.out.block q hq fun e=>by cases e⟩;exact(z1.trans z2 fun i _ e=>e.elim).trans hm6 fun i _ e=>.inl e
 have hx6:(w5.setCell ⟨sb,4,none⟩ (.slice (some ⟨g5,0,none⟩) 3 cap5)).heap[sb]? =some (.cells #[.slice none 0 0,.int .u32 256,.slice (some ⟨w.heap.size+1,0,none⟩) 3 3,.int .u16 256,.slice (some ⟨g5,0,none⟩) 3 cap5,.int .u16 512,.string tx] 46 (0,0)):=hx6;have HG5s:=Lh hg5s;clear c4 cf4 hm6 hg5s HR5 HG5 HO5 HX5 HA5 HN5;generalize w5.setCell ⟨sb,4,none⟩ (.slice (some ⟨g5,0,none⟩) 3 cap5)=w6 at*;have HX6:=Lh hx6;have HR6:=Lh hr6;have HM6:=Lh hm56;clear hx6 hr6 hm56;go_wp2_with fail;rw[rounds_succ];obtain⟨_,_,_,_,c4,_,_,cf⟩:=st_cells HX6.out;have cf4:=cf 4;clear cf;have hA7:=(Below.refl w6.heap.size w6).alloc (Nat.le_refl _) (.cells (i3 536).toArray 116);have HA7:=Lh hA7;have HN7:=Lh (heap_alloc_new w6 (.cells (i3 536).toArray 116));have hr7:(w6.alloc (.cells (i3 536).toArray 116)).ownsRow w.heap.size 116 5 (.slice (some ⟨g5,0,none⟩) 3 cap5) 3 (i3 512):=ownsRow_keep HR6.out fun q hq=>hA7.block q (row_lt HR6.out hq).2
 have HR7:=Lh hr7;have HB7:Hid (w.heap.size≤(w6.alloc (.cells (i3 536).toArray 116)).heap.size):=Lh (Nat.le_trans HB4.out.size (Nat.le_trans HM6.out.size hA7.size));clear hA7 hr7;go_upto_region 4 with(at_builtin;refine wpList_append_lies _ (by rfl) _ _ _ (by rfl) w.heap.size 116 i0 (.agg #[.int .u8 0,.int .u8 0,.int .u8 0,.int .u8 0,.int .u32 0]) 5 8 Tryz.underlying44 HIn.out.1 HIn.out.2.1 HIn.out.2.2.1 HIn.out.2.2.2 rfl (by omega) (.slice (some ⟨g5,0,none⟩) 3 cap5) 3 (i3 512) (by rfl) HR7.out ⟨w6.heap.size,0,none⟩ 3 3 (i3 536) (by rfl) (by rfl) (World.news_of_block HN7.out) (i3_one 536) (by omega) (by decide) (by omega) HB7.out _ rfl ?_;intro g8 cap8 w8 hr8 hg8 ho8 hl8;have hn8:=(hg8.block sb (Nat.lt_of_lt_of_le (lQ HX6.out) HA7.out.size) (fun e=>HG5s.out.1 (Option.some.inj (show some sb=some g5 from e)).symm)).trans ((HA7.out.block sb (lQ HX6.out)).trans HX6.out);clear c4 cf4;obtain⟨_,_,_,_,c4,_,_,cf⟩:=st_cells hn8;have cf4:=cf 4;have HR8:=Lh hr8;have HG8:=Lh hg8;have HO8:=Lh ho8;have HX8:=Lh hn8;clear hr8 hg8 ho8 hl8 hn8 cf);have hg8s:g8≠sb∧w.heap.size+1<g8:=by
  have h1:=lQ HX6.out;have h2:=HSb.out;have h3:=HG5s.out;rcases HO8.out with q|q
  ·have e:g5=g8:=Option.some.inj (show some g5=some g8 from q);omega
  ·have:w6.heap.size<g8:=by rw[q];simp
   omega
 have hx9:(w8.setCell ⟨sb,4,none⟩ (.slice (some ⟨g8,0,none⟩) 6 cap8)).heap[sb]? =some (.cells #[.slice none 0 0,.int .u32 256,.slice (some ⟨w.heap.size+1,0,none⟩) 3 3,.int .u16 256,.slice (some ⟨g8,0,none⟩) 6 cap8,.int .u16 512,.string tx] 46 (0,0)):=heap_setCell_same w8 sb 4 _ _ (.slice (some ⟨g8,0,none⟩) 6 cap8) HX8.out;have hm9:Mod (fun q=>q=sb) w8 (w8.setCell ⟨sb,4,none⟩ (.slice (some ⟨g8,0,none⟩) 6 cap8)):=Mod.setCell (F:=fun q=>q=sb) (Mod.refl _ _) ⟨sb,4,none⟩ (.inl rfl) _;have hr9:(w8.setCell ⟨sb,4,none⟩ (.slice (some ⟨g8,0,none⟩) 6 cap8)).ownsRow w.heap.size 116 5 (.slice (some ⟨g8,0,none⟩) 6 cap8) 6 (i3 512++i3 536):=ownsRow_keep (show w8.ownsRow w.heap.size 116 5 (.slice (some ⟨g8,0,none⟩) 6 cap8) 6 (i3 512++i3 536) from HR8.out) fun q hq=>by
  cases hq;exact hm9.block g8 (row_lt HR8.out rfl).2 hg8s.1
 have hm89:Mod (fun q=>q=sb∨q=g5) w4 (w8.setCell ⟨sb,4,none⟩ (.slice (some ⟨g8,0,none⟩) 6 cap8)):=by
  have z0:Mod (fun q=>q=sb∨q=g5) w4 w6:=HM6.out.mono fun i _ e=>.inl e
  have z1:=z0.trans (Mod.of_below HA7.out fun _=>False) fun i _ e=>e.elim
  have z2:Mod (fun q=>q=g5) (w6.alloc (.cells (i3 536).toArray 116)) w8:=⟨HG8.out.os,HG8.out.tape,HG8.out.output,HG8.out.size,fun q hq hn=>HG8.out.block q hq fun e=>hn (Option.some.inj (show some q=some g5 from e))⟩;exact(z1.trans z2 fun i _ e=>.inl (.inr e)).trans hm9 fun i _ e=>.inl (.inl e)
 have hne0:¬(w.heap.size=sb∨w.heap.size=g5):=by have:=HSb.out;have:=HG5s.out;omega
 have hne1:¬(w.heap.size+1=sb∨w.heap.size+1=g5):=by have:=HSb.out;have:=HG5s.out;omega
 have hb0:=(hm89.block _ (lQ HR4.out) hne0).trans HR4.out;have hbP:=(hm89.block _ (lQ HP4.out) hne1).trans HP4.out;have hbl:=Mod.below HB4.out hm89 HB4.out.size fun i _ e=>by have:=HSb.out;have:=HG5s.out;omega
 clear c4 cf4 hm9 hm89 hne0 hne1 HR8 HG8 HO8 HX8 HA7 HN7 HR7 HB7 HG5s HX6 HR6 HM6 HR4 HP4 HN4;generalize w8.setCell ⟨sb,4,none⟩ (.slice (some ⟨g8,0,none⟩) 6 cap8)=w9 at*;have HX9:=Lh hx9;have HR9:=Lh hr9;have HB0:=Lh hb0;have HBP:=Lh hbP;have HBl:=Lh hbl;have HG8s:=Lh hg8s;clear hx9 hr9 hb0 hbP hbl hg8s;go_wp2_with fail;rw[rounds_succ];obtain⟨c0,c1,c2,c3,c4,c5,c6,_⟩:=st_cells HX9.out;obtain⟨d0,d1,d2,d3,d4,d5,d6,df⟩:=st_cells (y0:=.slice none 0 0) (y1:=.int .u32 0) (y2:=.slice none 0 0) (y3:=.int .u16 0) (y4:=.slice none 0 0) (y5:=.int .u16 0) (y6:=.string { data:= #[] }) HB0.out;have f0:=df 0;have f1:=df 1;have f2:=df 2;have f3:=df 3;have f4:=df 4;have f5:=df 5;have f6:=df 6;clear df;obtain⟨hs7,hm7⟩:=set7 (y0:=.slice none 0 0) (y1:=.int .u32 0) (y2:=.slice none 0 0) (y3:=.int .u16 0) (y4:=.slice none 0 0) (y5:=.int .u16 0) (y6:=.string { data:= #[] }) HB0.out (.slice none 0 0) (.int .u32 256) (.slice (some ⟨w.heap.size+1,0,none⟩) 3 3) (.int .u16 256) (.slice (some ⟨g8,0,none⟩) 6 cap8) (.int .u16 512) (.string tx);have hL:=load_st hs7;have hr10:=ownsRow_keep HR9.out fun q hq=>hm7.block q (row_lt HR9.out hq).2 fun e=>by
  have e2:q=w.heap.size:=e;have hq2:g8=q:=Option.some.inj (show some g8=some q from hq);have h3:w.heap.size+1<g8:=HG8s.out.2;omega
 have hP10:=(hm7.block _ (lQ HBP.out) (by omega)).trans HBP.out;have hfin:=HFin.out _ (w.heap.size+1) g8 cap8 (fun V hV=>st38_ok ((hV.block _ (lQ hP10)).trans hP10) (ownsRow_keep hr10 fun q hq=>hV.block q (row_lt hr10 hq).2)) (Mod.below HBl.out hm7 HBl.out.size fun i _ e=>Nat.le_of_eq e.symm);have hce:(st38 (w.heap.size+1) g8 cap8).cells= #[.slice none 0 0,.int .u32 256,.slice (some ⟨w.heap.size+1,0,none⟩) 3 3,.int .u16 256,.slice (some ⟨g8,0,none⟩) 6 cap8,.int .u16 512,.string tx]:=by rw[←HTx.out];rfl
 rw[hce] at hfin;have HFn:=Lh hfin;have HLd:=Lh hL;clear hs7 hm7 hL hr10 hP10 hfin hce;go_wp2;exact bodyPost_ret (results_one Tryz.results44 rfl HLd.out) rfl HFn.out
end Go.Proofs.YtnpicaigdfnmfaaGreat.Wr
namespace Go.Proofs.YtnpicaigdfnmfaaGreat.Wr
open Go.RowKit Pag
theorem same38{w:World}{g h ca cb:Nat}{f:Flt}(c0:w.cell? ⟨g,0,none⟩=some (.int .i64 f.a))(c1:w.cell? ⟨g,1,none⟩=some (.int .i64 f.b))(c2:w.cell? ⟨g,2,none⟩=some (.string f.t))(d0:w.cell? ⟨h,0,none⟩=some (.int .i64 f.a))(d1:w.cell? ⟨h,1,none⟩=some (.int .i64 f.b))(d2:w.cell? ⟨h,2,none⟩=some (.string f.t)):
  Calls Tryz.prog 48 #[.slice (some ⟨g,0,none⟩) 1 ca,.slice (some ⟨h,0,none⟩) 1 cb] w fun r w'=>r=.returned (.bool true)∧Below w.heap.size w w':=by
 have HB0:=Lh (Below.refl w.heap.size w);go_enter func48,ntmps48;go_wp2_with fail;refine wp_loop_rounds 2 ?_;rw[rounds_succ];go_upto_region 6 with(fail);go_quiet (fail);have HB:=Lh (below_drawn HB0.out nq);clear c0 c1 c2 d0 d1 d2;go_wp2_with fail;rw[rounds_succ];go_wp2;go_ret;exact⟨rfl,HB.out⟩
def Docs(w:World)(v:Value)(L:List Nat):Prop:=∃o cc,v=.slice o L.length cc∧∀T x U,L=T++x::U→∃g,o=some ⟨g,0,none⟩∧g<w.heap.size∧w.cell? ⟨g,T.length,none⟩=some (.pointer (some ⟨x,0,none⟩))∧x<w.heap.size∧w.cell? ⟨x,2,none⟩=some (.slice none 0 0)
def dRel(w:World)(b:Nat)(xv:Value)(L:List Nat)(vi:Value)(wr:World):Prop:=
 ∃T U so sc,L=T++U∧vi=.int .i64 T.length∧wr.heap[b]? =some (.cells #[xv,.slice so T.length sc,.slice none 0 0,.slice none 0 0,.int .i64 0,.int .i64 0,.int .i64 0] 271 (0,0))∧wr.ownsRow w.heap.size 3 1 (.slice so T.length sc) T.length ((T.map fun _=>(0:Int)).map encI)∧(Value.slice so T.length sc).ownBlock≠some b∧Below w.heap.size w wr
theorem ref38{w:World}{v:Value}{L:List Nat}(hd:Docs w v L)(hl:L.length≤8):Calls Tryz.prog 76 #[v] w fun r w'=>(∃b,r=.returned (.pointer (some ⟨b,0,none⟩)))∧Below w.heap.size w w':=by
 generalize hPQ:(fun(r:Ending) (w':World)=>(∃b,r=.returned (.pointer (some ⟨b,0,none⟩)))∧Below w.heap.size w w')=PQ;have HFin:Hid (∀V b,Below w.heap.size w V→PQ (.returned (.pointer (some ⟨b,0,none⟩))) V):=Lh fun V b h=>by rw[←hPQ];exact⟨⟨b,rfl⟩,h⟩
 clear hPQ;obtain⟨o,cc,rfl,hat⟩:=hd;have HAt:=Lh hat
 have hl8:(L.length:Int)≤8:=by omega
 have hA:=(Below.refl w.heap.size w).alloc (Nat.le_refl _) (.cells #[.slice o L.length cc,.slice none 0 0,.slice none 0 0,.slice none 0 0,.int .i64 0,.int .i64 0,.int .i64 0] 271);have hN:=heap_alloc_new w (.cells #[.slice o L.length cc,.slice none 0 0,.slice none 0 0,.slice none 0 0,.int .i64 0,.int .i64 0,.int .i64 0] 271);obtain⟨w1,hw1⟩:∃q,w.alloc (.cells #[.slice o L.length cc,.slice none 0 0,.slice none 0 0,.slice none 0 0,.int .i64 0,.int .i64 0,.int .i64 0] 271)=q:=⟨_,rfl⟩;obtain⟨b,hb⟩:∃q,w.heap.size=q:=⟨_,rfl⟩;rw[hw1] at hA hN;rw[hb] at hN;have HA:=Lh (And.intro hA hN);have HWw:=Lh hw1;have HBb:=Lh hb;have hge:∀V,Below w.heap.size w V→True:=fun _ _=>trivial
 clear hat hA hN hw1 hb hge;go_enter func76,ntmps76;go_wp2_with fail;rw[HWw.out,HBb.out];go_loopw [4] (fun vi wr=>dRel w b (.slice o L.length cc) L vi wr) (fun vi wr=>L.length - (intOf vi).toNat)
 case atStart=>exact⟨[],L,none,0,rfl,rfl,HA.out.2,World.ownsRow_nil _ _ _ _,(by intro e;cases e),HA.out.1⟩
 case round=>
  obtain⟨T,U,so,sc,hTU,rfl,hbk,hrw,hob,hbl⟩:=hrel;cases U with
  |nil=>
   rw[List.append_nil] at hTU;have hno:¬((T.length:Int)<L.length):=by rw[hTU];omega
   have HE:=Lh (HFin.out wr b hbl);clear hTU hbk hrw hob hbl;go_wp2
   first|exact HE.out|(go_ret;exact HE.out)
  |cons d U=>
   obtain⟨lg,rfl,hgl,hx,hdl,hdc⟩:=HAt.out T d U hTU;have hxr:wr.cell? ⟨lg,T.length,none⟩=some (.pointer (some ⟨d,0,none⟩)):=(hbl.cell (p:=⟨lg,T.length,none⟩) hgl).trans hx;have hdr:wr.cell? ⟨d,2,none⟩=some (.slice none 0 0):=(hbl.cell (p:=⟨d,2,none⟩) hdl).trans hdc;have hsv:wr.cell? ⟨b,1,none⟩=some (.slice so T.length sc):=by unfold World.cell?;rw[hbk];rfl
   have htl:T.length<L.length:=by rw[hTU,List.length_append,List.length_cons];omega
   have hin:(T.length:Int)<L.length:=by omega
   have HTU:=Lh hTU;have HBk:=Lh hbk;have HRw:=Lh hrw;have HOb:=Lh hob;have HBl:=Lh hbl;have HT7:Hid (T.length≤8):=Lh (by omega);have HGd:=Lh (And.intro hgl hdl);clear hTU hbk hrw hob hbl hx hdc hgl hdl;go_upto_region 5 with(fail);refine LB (fun V=>V.cell? ⟨b,1,none⟩=some (.slice so T.length sc)∧V.cell? ⟨lg,T.length,none⟩=some (.pointer (some ⟨d,0,none⟩))∧V.cell? ⟨d,2,none⟩=some (.slice none 0 0)∧True) 17 ⟨hsv,hxr,hdr,trivial⟩ fun wd hwd hS=> ?_
   have HBw:=Lh (show Below wr.heap.size wr wd by rw[hwd];exact Br.drew);clear hwd hsv hxr hdr;refine LT 0 hS ?_;refine LT 1 hS ?_;refine LT 2 hS ?_;refine LT 3 hS ?_;refine LT 4 hS ?_;refine LT 5 hS ?_;refine LT 6 hS ?_;refine LT 7 hS ?_;refine LT 8 hS ?_;refine LT 9 hS ?_;refine LT 10 hS ?_;refine LT 11 hS ?_;refine LU 12 fun K hK=> ?_
   go_simp;refine LV hK (fun _=>hS) ?_;clear hK K;refine LU 13 fun K hK=> ?_
   go_simp;have hA2:=(Below.refl wd.heap.size wd).alloc (Nat.le_refl _) (.cells #[.int .i64 0] 3);have HN2:=Lh (heap_alloc_new wd (.cells #[.int .i64 0] 3));have HB2:=Lh (bQ HBw.out hA2);have hS2:(wd.alloc (.cells #[.int .i64 0] 3)).cell? ⟨b,1,none⟩=some (.slice so T.length sc)∧(wd.alloc (.cells #[.int .i64 0] 3)).cell? ⟨lg,T.length,none⟩=some (.pointer (some ⟨d,0,none⟩))∧(wd.alloc (.cells #[.int .i64 0] 3)).cell? ⟨d,2,none⟩=some (.slice none 0 0)∧True:=⟨keep hS.1 hA2,keep hS.2.1 hA2,keep hS.2.2.1 hA2,trivial⟩;have hr2:(wd.alloc (.cells #[.int .i64 0] 3)).ownsRow w.heap.size 3 1 (.slice so T.length sc) T.length ((T.map fun _=>(0:Int)).map encI):=ownsRow_keep HRw.out fun q hq=>HB2.out.block q (Pr.row_lt HRw.out hq).2
   have HR2:=Lh hr2;have HBk2:=Lh ((HB2.out.block b (lQ HBk.out)).trans HBk.out);clear hA2 hr2 hS;refine LV hK (fun _=>hS2) ?_;clear hK K;refine LU 14 fun K hK=> ?_
   obtain⟨i0,hi,hz0,hz1,hz2⟩:=info_parts info_in;refine step_append_lies _ (by rfl) _ _ _ (by rfl) w.heap.size 3 i0 (.int .i64 0) 1 8 Tryz.underlying81 hi hz0 hz1 hz2 rfl (by omega) (.slice so T.length sc) T.length ((T.map fun _=>(0:Int)).map encI) (by rfl) HR2.out ⟨wd.heap.size,0,none⟩ 1 1 [.int .i64 0] (by rfl) (by rfl) (World.news_of_block HN2.out) (fun u hu=>by simp at hu;subst hu;rfl) (by omega) (by have:=HT7.out;unfold maxLen;omega) (by have:=HT7.out;omega) (Nat.le_trans HBl.out.size HB2.out.size) _ rfl ?_;intro g5 cap5 w5 hr5 hg5 ho5 _;have hn5:=(hg5.block b (lQ HBk2.out) (fun e=>HOb.out e.symm)).trans HBk2.out;have hg5b:g5≠b:=by
    rcases ho5 with q|q
    ·exact fun e=>HOb.out (e▸q)
    ·have:=lQ HBk2.out;omega
   have c1:w5.cell? ⟨b,1,none⟩=some (.slice so T.length sc):=by unfold World.cell?;rw[hn5];rfl
   have f1:w5.frozen? ⟨b,1,none⟩=false:=by unfold World.frozen?;rw[hn5];simp
   have hn6:(w5.setCell ⟨b,1,none⟩ (.slice (some ⟨g5,0,none⟩) (T.length+1) cap5)).heap[b]? =some (.cells #[.slice (some ⟨lg,0,none⟩) L.length cc,.slice (some ⟨g5,0,none⟩) (T.length+1) cap5,.slice none 0 0,.slice none 0 0,.int .i64 0,.int .i64 0,.int .i64 0] 271 (0,0)):=heap_setCell_same w5 b 1 _ _ _ hn5;have hm6:Mod (fun q=>q=b) w5 (w5.setCell ⟨b,1,none⟩ (.slice (some ⟨g5,0,none⟩) (T.length+1) cap5)):=Mod.setCell (F:=fun q=>q=b) (Mod.refl _ _) ⟨b,1,none⟩ (.inl rfl) _;have hrr:(T.map fun _=>(0:Int)).map encI++[.int .i64 0]=((T++[d]).map fun _=>(0:Int)).map encI:=by simp[encI]
   rw[hrr] at hr5;have hr6:(w5.setCell ⟨b,1,none⟩ (.slice (some ⟨g5,0,none⟩) (T.length+1) cap5)).ownsRow w.heap.size 3 1 (.slice (some ⟨g5,0,none⟩) (T.length+1) cap5) (T.length+1) (((T++[d]).map fun _=>(0:Int)).map encI):=ownsRow_keep hr5 fun q hq=>by
    cases hq;exact hm6.block g5 (Pr.row_lt hr5 rfl).2 hg5b
   have hb6:Below w.heap.size w (w5.setCell ⟨b,1,none⟩ (.slice (some ⟨g5,0,none⟩) (T.length+1) cap5)):=by
    have z1:Below w.heap.size w (wd.alloc (.cells #[.int .i64 0] 3)):=HBl.out.trans (HB2.out.mono HBl.out.size);have z2:Mod (fun q=>(Value.slice so T.length sc).ownBlock=some q) (wd.alloc (.cells #[.int .i64 0] 3)) w5:=⟨hg5.os,hg5.tape,hg5.output,hg5.size,fun q hq hn=>hg5.block q hq fun e=>hn e.symm⟩;have z3:=Mod.below z1 z2 z1.size fun i _ e=>(Pr.row_lt HR2.out e).1
    exact Mod.below z3 hm6 z3.size fun i _ e=>by have:=HBb.out;omega
   have HRel:Hid (dRel w b (.slice (some ⟨lg,0,none⟩) L.length cc) L (.int .i64 ((T.length:Int)+1)) (w5.setCell ⟨b,1,none⟩ (.slice (some ⟨g5,0,none⟩) (T.length+1) cap5))):=Lh ⟨T++[d],U,some ⟨g5,0,none⟩,cap5,by rw[HTU.out];simp,by rw[List.length_append];rfl,by rw[List.length_append];exact hn6,by rw[List.length_append];exact hr6,(by intro e;exact hg5b (Option.some.inj (show some g5=some b from e))),hb6⟩;have hold:∀q,q<w.heap.size→w5.heap[q]? =(wd.alloc (.cells #[.int .i64 0] 3)).heap[q]? :=fun q hq=>hg5.block q (Nat.lt_of_lt_of_le hq (Nat.le_trans HBl.out.size HB2.out.size)) fun e=>by
    have:=(Pr.row_lt HR2.out e.symm).1;omega
   have hS5:w5.cell? ⟨b,1,none⟩=some (.slice so T.length sc)∧w5.cell? ⟨lg,T.length,none⟩=some (.pointer (some ⟨d,0,none⟩))∧w5.cell? ⟨d,2,none⟩=some (.slice none 0 0)∧True:=⟨c1,(World.cell?_of_block (a:=⟨lg,T.length,none⟩) (hold lg HGd.out.1)).trans hS2.2.1,(World.cell?_of_block (a:=⟨d,2,none⟩) (hold d HGd.out.2)).trans hS2.2.2.1,trivial⟩;clear hn6 hm6 hr6 hb6 hrr hr5 hg5 ho5 hold hS2 hn5 hg5b;refine LV hK (fun _=>hS5) ?_;clear hK K;refine LU 15 fun K hK=> ?_
   go_simp;refine LV hK (fun _=>hS5) ?_;clear hK K;refine LT 16 hS5 ?_;refine LU 17 fun K hK=> ?_
   go_simp;generalize w5.setCell ⟨b,1,none⟩ (.slice (some ⟨g5,0,none⟩) (T.length+1) cap5)=w6 at*;refine LV hK (fun e=>absurd rfl e) ?_;clear hK K;refine E_done (by kernel_rfl) ?_ _;clear hS5 c1 f1;go_wp2;go_roundw
   case rel=>exact HRel.out
   case measure=>
    simp only[intOf];omega
end Go.Proofs.YtnpicaigdfnmfaaGreat.Wr
namespace Go.Proofs.YtnpicaigdfnmfaaGreat.Wr
open Go.RowKit Pag
theorem info_dp:(Tryz.prog.info? 48).map (fun i=>(i.zero,i.size,i.bytes))=some (some (.pointer none),1,8):=by kernel_rfl
def dptr(d:Nat):Value:=.pointer (some ⟨d,0,none⟩)
def Apt(m n:Nat×KAt):Prop:=(∀q,m.2.tag q≠0→n.2.tag q=0)∧m.2.tag n.1=0∧n.2.tag m.1=0∧m.1≠n.1
structure Mac(w0 w:World)(m:Nat×KAt):Prop where
 x:Ex w m.1 m.2.kb Ex.S0 (.slice none 0 0)
 k:Knl w m.2 k38
 t:m.2.tag m.1=0
 f:∀q,m.2.tag q≠0→w0.heap.size≤q
 g:w0.heap.size≤m.1
theorem Mac.mod{F:Nat→Prop}{w0 w w':World}{m:Nat×KAt}(h:Mac w0 w m)(hm:Mod F w w')(hF:∀q,q=m.1∨m.2.tag q≠0→¬F q):Mac w0 w' m:=
 { h with x:=h.x.mod hm (hF _ (.inl rfl)),k:=h.k.keep hm fun q hq=>hF q (.inr hq) }
theorem Mac.lt{w0 w:World}{m:Nat×KAt}(h:Mac w0 w m){q:Nat}(hq:q=m.1∨m.2.tag q≠0):q<w.heap.size:=by
 rcases hq with rfl|hq
 ·exact lQ h.x.blk
 ·exact h.k.lt q hq
structure Macs(w0 w:World)(vl vr:Value)(M:List (Nat×KAt))(D:List Nat):Prop where
 l:w.ownsRow w0.heap.size 32 1 vl (M.map fun m=>some m.1).length ((M.map fun m=>some m.1).map Cl.ptr)
 r:w.ownsRow w0.heap.size 48 1 vr D.length (D.map dptr)
 m:∀m,m∈M→Mac w0 w m
 p:M.Pairwise Apt
 d:∀x,x∈D→∃a b,w.heap[x]? =some (.cells #[a,b,.slice none 0 0] 137 (0,0))
 ol:∀g,vl.ownBlock=some g→vr.ownBlock≠some g∧(∀m,m∈M→g≠m.1∧m.2.tag g=0)∧g∉D
 or':∀g,vr.ownBlock=some g→(∀m,m∈M→g≠m.1∧m.2.tag g=0)∧g∉D
 b:Below w0.heap.size w0 w
theorem Macs.below{w0 w w':World}{vl vr:Value}{M:List (Nat×KAt)}{D:List Nat}(h:Macs w0 w vl vr M D)(hb:Below w.heap.size w w'):Macs w0 w' vl vr M D:=
 { h with
      l:=ownsRow_keep h.l fun g hg=>hb.block g (Pr.row_lt h.l hg).2,r:=ownsRow_keep h.r fun g hg=>hb.block g (Pr.row_lt h.r hg).2
      m:=fun m hm=>(h.m m hm).mod (Mod.of_below hb fun _=>False) fun _ _=>id
      d:=fun x hx=>by obtain⟨a,b,e⟩:=h.d x hx;exact⟨a,b,(hb.block x (lQ e)).trans e⟩
      b:=h.b.trans (hb.mono h.b.size) }
theorem Macs.addM{w0 w w1 w2:World}{vl vr:Value}{M:List (Nat×KAt)}{D:List Nat}(h:Macs w0 w vl vr M D)(hb:Below w.heap.size w w1){m:Nat×KAt}(hm:Mac w w1 m){g n cap:Nat}(hg:w1.grownBy w2 vl.ownBlock)(hr:w2.ownsRow w0.heap.size 32 1 (.slice (some ⟨g,0,none⟩) n cap) ((M++[m]).map fun m=>some m.1).length (((M++[m]).map fun m=>some m.1).map Cl.ptr))(ho:vl.ownBlock=some g∨w1.heap.size≤g):Macs w0 w2 (.slice (some ⟨g,0,none⟩) n cap) vr (M++[m]) D:=by
 have h1:=h.below hb;have m2:Mod (fun q=>vl.ownBlock=some q) w1 w2:=⟨hg.os,hg.tape,hg.output,hg.size,fun q hq hn=>hg.block q hq fun e=>hn e.symm⟩;have hs:=hb.size;have hs0:=h.b.size;have hnew:∀q,q=m.1∨m.2.tag q≠0→w.heap.size≤q∧q<w1.heap.size:=fun q hq=>⟨by rcases hq with rfl|hq;exact hm.g;exact hm.f q hq,hm.lt hq⟩
 have hgo:∀q,vl.ownBlock=some q→q<w.heap.size:=fun q e=>(Pr.row_lt h.l e).2
 have hgx:∀m',m'∈M++[m]→g≠m'.1∧m'.2.tag g=0:=fun m' hm'=>by
  rcases List.mem_append.1 hm' with q|q
  ·rcases ho with e|e
   ·exact(h.ol g e).2.1 m' q
   ·exact⟨fun z=>by have:=(h1.m m' q).lt (.inl rfl);omega,Decidable.byContradiction fun z=>by have:=(h1.m m' q).lt (.inr z);omega⟩
  ·simp only[List.mem_singleton] at q;subst q;rcases ho with e|e
   ·have:=hgo g e;exact⟨fun z=>by have:=(hnew g (.inl z)).1;omega,Decidable.byContradiction fun z=>by have:=(hnew g (.inr z)).1;omega⟩
   ·exact⟨fun z=>by have:=(hnew g (.inl z)).2;omega,Decidable.byContradiction fun z=>by have:=(hnew g (.inr z)).2;omega⟩
 have hgD:g∉D:=fun z=>by
  rcases ho with e|e
  ·exact(h.ol g e).2.2 z
  ·obtain⟨a,b,q⟩:=h1.d g z;have:=lQ q;omega
 have hgr:vr.ownBlock≠some g:=fun z=>by
  rcases ho with e|e
  ·exact(h.ol g e).1 z
  ·have:=(Pr.row_lt h1.r z).2;omega
 refine⟨hr,ownsRow_keep h1.r fun q hq=>m2.block q (Pr.row_lt h1.r hq).2 fun e=>(h.ol q e).1 hq,fun m' hm'=> ?_,List.pairwise_append.2 ⟨h.p,List.pairwise_singleton _ _,fun x hx y hy=> ?_⟩,fun x hx=> ?_,fun q hq=> ?_,fun q hq=>⟨fun m' hm'=> ?_,(h.or' q hq).2⟩,Mod.below h1.b m2 h1.b.size fun i _ e=>(Pr.row_lt h.l e).1⟩
 ·rcases List.mem_append.1 hm' with q|q
  ·exact(h1.m m' q).mod m2 fun i hi e=>by
    obtain⟨_,z,_⟩:=h.ol i e;rcases hi with hi|hi
    ·exact(z m' q).1 hi
    ·exact hi (z m' q).2
  ·simp only[List.mem_singleton] at q;subst q;have:=hm.mod m2 fun i hi e=>by have:=(hnew i hi).1;have:=hgo i e;omega
   exact { this with f:=fun q hq=>Nat.le_trans hs0 (this.f q hq),g:=Nat.le_trans hs0 this.g }
 ·simp only[List.mem_singleton] at hy;subst hy;exact⟨fun q hq=>Decidable.byContradiction fun z=>by have:=(h.m x hx).lt (.inr hq);have:=(hnew q (.inr z)).1;omega,Decidable.byContradiction fun z=>by have:=(h.m x hx).lt (.inr z);have:=(hnew y.1 (.inl rfl)).1;omega,Decidable.byContradiction fun z=>by have:=(h.m x hx).lt (.inl rfl);have:=(hnew x.1 (.inr z)).1;omega,fun z=>by have:=(h.m x hx).lt (.inl rfl);have:=(hnew x.1 (.inl z)).1;omega⟩
 ·obtain⟨a,b,e⟩:=h1.d x hx;exact⟨a,b,(m2.block x (lQ e) fun z=>(h.ol x z).2.2 hx).trans e⟩
 ·cases hq;exact⟨hgr,hgx,hgD⟩
 ·rcases List.mem_append.1 hm' with z|z
  ·exact(h.or' q hq).1 m' z
  ·simp only[List.mem_singleton] at z;subst z;have:=(Pr.row_lt h.r hq).2;exact⟨fun z=>by have:=(hnew q (.inl z)).1;omega,Decidable.byContradiction fun z=>by have:=(hnew q (.inr z)).1;omega⟩
theorem Macs.addD{w0 w w1 w2:World}{vl vr:Value}{M:List (Nat×KAt)}{D:List Nat}(h:Macs w0 w vl vr M D)(hb:Below w.heap.size w w1){d:Nat}(hd:∃a b,w1.heap[d]? =some (.cells #[a,b,.slice none 0 0] 137 (0,0)))(hdw:w.heap.size≤d){g n cap:Nat}(hg:w1.grownBy w2 vr.ownBlock)(hr:w2.ownsRow w0.heap.size 48 1 (.slice (some ⟨g,0,none⟩) n cap) (D++[d]).length ((D++[d]).map dptr))(ho:vr.ownBlock=some g∨w1.heap.size≤g):Macs w0 w2 vl (.slice (some ⟨g,0,none⟩) n cap) M (D++[d]):=by
 have h1:=h.below hb;have m2:Mod (fun q=>vr.ownBlock=some q) w1 w2:=⟨hg.os,hg.tape,hg.output,hg.size,fun q hq hn=>hg.block q hq fun e=>hn e.symm⟩;have hs:=hb.size;obtain⟨a,b,hdb⟩:=hd;have hdl:=lQ hdb;have hgo:∀q,vr.ownBlock=some q→q<w.heap.size:=fun q e=>(Pr.row_lt h.r e).2
 have hgd:g≠d:=by
  rcases ho with e|e
  ·have:=hgo g e;omega
  ·omega
 refine⟨ownsRow_keep h1.l fun q hq=>m2.block q (Pr.row_lt h1.l hq).2 fun e=>(h.ol q hq).1 e,hr,fun m' hm'=>(h1.m m' hm').mod m2 fun i hi e=> ?_,h.p,fun x hx=> ?_,fun q hq=>⟨fun e=> ?_,(h.ol q hq).2.1,fun z=> ?_⟩,fun q hq=> ?_,Mod.below h1.b m2 h1.b.size fun i _ e=>(Pr.row_lt h.r e).1⟩
 ·obtain⟨z,_⟩:=h.or' i e;rcases hi with hi|hi
  ·exact(z m' hm').1 hi
  ·exact hi (z m' hm').2
 ·rcases List.mem_append.1 hx with q|q
  ·obtain⟨a,b,e⟩:=h1.d x q;exact⟨a,b,(m2.block x (lQ e) fun z=>(h.or' x z).2 q).trans e⟩
  ·simp only[List.mem_singleton] at q;subst q;exact⟨a,b,(m2.block x hdl fun z=>by have:=hgo x z;omega).trans hdb⟩
 ·have e2:g=q:=Option.some.inj (show some g=some q from e);subst e2;rcases ho with o|o
  ·exact(h.ol g hq).1 o
  ·have:=(Pr.row_lt h1.l hq).2;omega
 ·rcases List.mem_append.1 z with z|z
  ·exact(h.ol q hq).2.2 z
  ·simp only[List.mem_singleton] at z;have:=(Pr.row_lt h.l hq).2;omega
 ·have e2:g=q:=Option.some.inj (show some g=some q from hq);subst e2;refine⟨fun m' hm'=> ?_,fun z=> ?_⟩
  ·rcases ho with o|o
   ·exact(h.or' g o).1 m' hm'
   ·exact⟨fun z=>by have:=(h1.m m' hm').lt (.inl rfl);omega,Decidable.byContradiction fun z=>by have:=(h1.m m' hm').lt (.inr z);omega⟩
  ·rcases List.mem_append.1 z with z|z
   ·rcases ho with o|o
    ·exact(h.or' g o).2 z
    ·obtain⟨a,b,q⟩:=h1.d g z;have:=lQ q;omega
   ·simp only[List.mem_singleton] at z;exact hgd z
theorem Macs.docs{w0 w:World}{vl vr:Value}{M:List (Nat×KAt)}{D:List Nat}(h:Macs w0 w vl vr M D):Docs w vr D:=by
 rcases h.r.2 with⟨e,hz⟩|⟨g,cap,cur,e,_,hg,r1,r2,r3,r4⟩
 ·refine⟨none,0,by rw[e,hz],fun T x U q=> ?_⟩;rw[q] at hz;simp at hz
 ·refine⟨_,cap,e,fun T x U q=>⟨g,rfl,lQ hg, ?_, ?_⟩⟩
  ·have h2:(cur.toList.take (D.length*1))[T.length]? =(D.map dptr)[T.length]? :=by rw[r4]
   rw[List.getElem?_take_of_lt (by rw[q];simp),List.getElem?_map] at h2;have h3:D[T.length]? =some x:=by rw[q];simp
   rw[h3] at h2;unfold World.cell?;rw[hg]
   simpa [dptr] using h2
  ·obtain⟨a,b,z⟩:=h.d x (by rw[q];simp);exact⟨lQ z,by unfold World.cell?;rw[z];rfl⟩
def MadeP(w:World)(r:Ending)(w':World):Prop:=
 ∃(m0 m1:Nat×KAt) (wm:World) (vl vr:Value) (D:List Nat) (wb:Nat) (mv sv:Value) (rb bd:Nat),r=.returned (.tuple #[vl,.pointer (some ⟨wb,0,none⟩),.pointer (some ⟨bd,0,none⟩)])∧Macs w wm vl vr [m0,m1] D∧Below wm.heap.size wm w'∧Wo w' wm.heap.size wb 0 0 0 mv sv rb (.slice none 0 0) [some m0.1,some m1.1] [0,0] (fun _=>none) 0 []
def mRel(w:World)(vi vl vr:Value)(wr:World):Prop:=∃M D,vi=.int .i64 (List.length (α:=Nat×KAt) M)∧M.length≤2∧List.length (α:=Nat) D=M.length∧Macs w wr vl vr M D
theorem hok38:Ca.hardOk 100 [4]=true:=by decide
theorem made(w:World):Calls Tryz.prog 42 #[.int .i64 2] w (MadeP w):=by
 generalize hPQ:MadeP w=PQ;have HFin:=Lh fun V m0 m1 wm vl vr D wb mv sv rb bd (g1:Macs w wm vl vr [m0,m1] D) (g2:Below wm.heap.size wm V) (g3:Wo V wm.heap.size wb 0 0 0 mv sv rb (.slice none 0 0) [some m0.1,some m1.1] [0,0] (fun _=>none) 0 [])=>(show PQ (.returned (.tuple #[vl,.pointer (some ⟨wb,0,none⟩),.pointer (some ⟨bd,0,none⟩)])) V from by rw[←hPQ];exact⟨m0,m1,wm,vl,vr,D,wb,mv,sv,rb,bd,rfl,g1,g2,g3⟩)
 clear hPQ;have HHd:=Lh hard;obtain⟨i0,hi,hz0,hz1,hz2⟩:=info_parts info_dp;have HIn:=Lh (And.intro hi (And.intro hz0 (And.intro hz1 hz2)));clear hi hz0 hz1 hz2;go_enter func42,ntmps42;go_wp2_with fail;go_loopw [7,5,6] (fun vi vl vr wr=>mRel w vi vl vr wr) (fun vi vl vr wr=>2 - (intOf vi).toNat)
 case atStart=>exact⟨[],[],rfl,by decide,rfl,⟨World.ownsRow_nil _ _ _ _,World.ownsRow_nil _ _ _ _,fun m hm=>by simp at hm,List.Pairwise.nil,fun x hx=>by simp at hx,fun g hg=>(nomatch hg),fun g hg=>(nomatch hg),Below.refl _ _⟩⟩
 case round=>
  obtain⟨M,D,rfl,hM2,hDM,hmc⟩:=hrel;obtain⟨lo,lc,rfl⟩:∃o c,u5=.slice o M.length c:=by
   obtain⟨o,c,e⟩:=Pr.row_shape hmc.l;exact⟨o,c,by rw[e,List.length_map]⟩
  obtain⟨ro,rc,rfl⟩:∃o c,u6=.slice o M.length c:=by
   obtain⟨o,c,e⟩:=Pr.row_shape hmc.r;exact⟨o,c,by rw[e,hDM]⟩
  have HMc:=Lh hmc;have HDM:=Lh hDM;clear hmc hDM
  by_cases hlt:M.length<2
  ·have hlt':(M.length:Int)<2:=by omega
   go_wp2_with fail;refine(HHd.out wr).mono ?_;rintro r w1 ⟨g,rfl,hw1,hg1,hg2,hb1⟩;go_wp2_with fail;refine(Ex.new hw1 (by intro y hy;simp at hy;omega) (by omega) hok38).mono ?_;rintro r w2 ⟨xb,a,rfl,hx2,hk2,hax,hat,hxs,hb2⟩;have hmac:Mac wr w2 (xb,a):=⟨hx2,hk2,hax,fun q hq=>Nat.le_trans hb1.size (hat q hq),Nat.le_trans hb1.size hxs⟩;have hA:=(Below.refl w2.heap.size w2).alloc (Nat.le_refl _) (.cells #[.pointer (some ⟨xb,0,none⟩)] 32);have HMa:=Lh (hmac.mod (Mod.of_below hA fun _=>False) fun _ _=>id);have HN3:=Lh (heap_alloc_new w2 (.cells #[.pointer (some ⟨xb,0,none⟩)] 32));have HB3:=Lh (bQ (bQ hb1 hb2) hA);have HM3:=Lh (HMc.out.below HB3.out);have HT3:Hid ((M.map fun m=>some m.1).length≤1000000):=Lh (by rw[List.length_map];omega);have HS3:=Lh HM3.out.b.size;clear hw1 hg1 hg2 hb1 hx2 hk2 hax hat hxs hb2 hmac hA;go_upto_region 10 with(at_builtin;refine wpList_app_xp (by rfl) _ _ (by rfl) w.heap.size _ (M.map fun m=>some m.1) (by rfl) HM3.out.l _ xb (by rfl) HN3.out HT3.out HS3.out ?_;intro g5 cap5 w5 hr5 hg5 ho5;rw[show(M.map fun m=>some m.1)++[some xb]=(M++[(xb,a)]).map (fun m=>some m.1) from by simp] at hr5;have HM5:=Lh (HMc.out.addM HB3.out HMa.out hg5 hr5 (ho5.imp id fun q=>Nat.le_of_eq q.symm));clear hr5 hg5 ho5);go_wp2_with fail;refine(HHd.out w5).mono ?_;rintro r w6 ⟨g',rfl,hw6,hg3,hg4,hb6⟩;go_wp2_with fail;refine(Dx.new hw6 (by intro y hy;simp at hy;omega) (by omega) hok38 (fun k _ hk=>by cases hk;exact hg4)).mono ?_;rintro r w7 ⟨db,sb,b,rfl,hd7,_,_,_,_,hdg,_,hb7⟩;have hA8:=(Below.refl w7.heap.size w7).alloc (Nat.le_refl _) (.cells #[.pointer (some ⟨db,0,none⟩)] 48);have HN8:=Lh (heap_alloc_new w7 (.cells #[.pointer (some ⟨db,0,none⟩)] 48));have HB8:=Lh (bQ (bQ hb6 hb7) hA8);have HD8:=Lh (show∃a b,(w7.alloc (.cells #[.pointer (some ⟨db,0,none⟩)] 48)).heap[db]? =some (.cells #[a,b,.slice none 0 0] 137 (0,0)) from⟨_,_,(hd7.below hA8).blk⟩);have HDw:=Lh (Nat.le_trans hb6.size hdg);have hr8:=(HM5.out.below HB8.out).r;rw[HDM.out] at hr8;have HR8:=Lh hr8;have HS8:=Lh (HM5.out.below HB8.out).b.size;have HL8:Hid (M.length≤8):=Lh (by omega);clear hw6 hg3 hg4 hb6 hd7 hdg hb7 hA8 hr8;go_upto_region 5 with(at_builtin;refine wpList_append_lies _ (by rfl) _ _ _ (by rfl) w.heap.size 48 i0 (.pointer none) 1 8 Tryz.underlying194 HIn.out.1 HIn.out.2.1 HIn.out.2.2.1 HIn.out.2.2.2 rfl (by omega) (.slice ro M.length rc) M.length (D.map dptr) (by rfl) HR8.out ⟨w7.heap.size,0,none⟩ 1 1 [.pointer (some ⟨db,0,none⟩)] (by rfl) (by rfl) (World.news_of_block HN8.out) (fun u hu=>by simp at hu;subst hu;rfl) (by omega) (by have:=HL8.out;unfold maxLen;omega) (by have:=HL8.out;omega) HS8.out _ rfl ?_;intro g9 cap9 w9 hr9 hg9 ho9 hl9;have HR9:=Lh hr9;have HG9:=Lh hg9;have HO9:=Lh ho9;clear hr9 hg9 ho9 hl9);have hr10:w9.ownsRow w.heap.size 48 1 (.slice (some ⟨g9,0,none⟩) (M.length+1) cap9) (D++[db]).length ((D++[db]).map dptr):=by
    have:=HR9.out;rw[List.length_append,List.map_append,HDM.out];exact this
   have HM9:=Lh (HM5.out.addD HB8.out HD8.out HDw.out HG9.out hr10 (HO9.out.imp id fun q=>Nat.le_of_eq q.symm));clear hr10 HR9 HG9 HO9;have HRel:Hid (mRel w (.int .i64 ((M.length:Int)+1)) (.slice (some ⟨g5,0,none⟩) ((M.map fun m=>some m.1).length+1) cap5) (.slice (some ⟨g9,0,none⟩) (M.length+1) cap9) w9):=Lh ⟨M++[(xb,a)],D++[db],by rw[List.length_append];rfl,by rw[List.length_append];show M.length+1≤2;omega,by rw[List.length_append,List.length_append,HDM.out];rfl,HM9.out⟩;rw[List.length_map] at HRel;clear HM9 HD8 HDw HR8 HS8 HL8 HB8 HN8 HM5 HT3 HS3 HM3 HB3 HN3 HMa HMc;go_wp2;go_roundw
   case rel=>exact HRel.out
   case measure=>
    simp only[intOf];omega
  ·obtain⟨m0,m1,rfl⟩:∃m0 m1,M=[m0,m1]:=by
    match M,hM2,hlt with
    | [],_,h=>exact absurd (show(0:Nat)<2 by omega) h
    | [a],_,h=>exact absurd (show(1:Nat)<2 by omega) h
    | [a,b],_,_=>exact⟨a,b,rfl⟩
    |a::b::c::l,h,_=>simp at h
   have h0:=HMc.out.m m0 (by simp);have h1:=HMc.out.m m1 (by simp);have hne:m0.1≠m1.1:=(List.pairwise_cons.1 HMc.out.p).1 m1 (by simp)|>.2.2.2
   have hnew:=Wr.new (fun _=>[]) (Cl.Ptrs.of_own HMc.out.l) (by simp) (by simp) (fun x hx=>by simp at hx;rcases hx with rfl|rfl;exact⟨_,rfl⟩;exact⟨_,rfl⟩) (fun b hb=>by simp at hb;rcases hb with rfl|rfl;exact⟨_,_,h0.x.blk⟩;exact⟨_,_,h1.x.blk⟩) (fun b hb V hV=>by
    simp at hb;rcases hb with rfl|rfl
    ·exact Ex.trace (h0.x.below hV) (World.ownsRow_nil V 0 _ _) (by decide)
    ·exact Ex.trace (h1.x.below hV) (World.ownsRow_nil V 0 _ _) (by decide))
   have HNw:=Lh hnew;have HNe:=Lh hne;clear hnew h0 h1 hne hlt hM2;go_wp2_with fail;refine HNw.out.mono ?_;rintro r w1 (⟨_,wb,mv,sv,rb,rfl,hwo,hb1⟩|⟨hn,_⟩)
   case inr=>exact absurd (show([some m0.1,some m1.1]:List (Option Nat)).Nodup by simp[HNe.out]) hn
   have hwo:Wo w1 wr.heap.size wb 0 0 0 mv sv rb (.slice none 0 0) [some m0.1,some m1.1] [0,0] (fun _=>none) 0 []:=hwo;have hdc:=(HMc.out.below hb1).docs;have HRf:=Lh (ref38 hdc (by rw[HDM.out];simp));have HWo:=Lh hwo;have HB1:=Lh hb1;clear hwo hb1 hdc HNw;go_wp2_with fail;refine HRf.out.mono ?_;rintro r w2 ⟨⟨bd,rfl⟩,hb2⟩;have HE:=Lh (HFin.out w2 m0 m1 wr _ _ D wb mv sv rb bd HMc.out (bQ HB1.out hb2) (HWo.out.below hb2));clear hb2;go_wp2
   first|exact HE.out|exact bodyPost_ret (by simp[results,Tryz.results42,go_sem]) rfl HE.out
end Go.Proofs.YtnpicaigdfnmfaaGreat.Wr
namespace Go.Proofs.YtnpicaigdfnmfaaGreat
open Go.RowKit Pag
theorem int_at{w:World}{base:Nat}{v:Value}{xs:List Int}(h:w.ownsRow base 3 1 v xs.length (xs.map encI)):∃o cc,v=.slice o xs.length cc∧∀T x U,xs=T++x::U→∃g,o=some ⟨g,0,none⟩∧g<w.heap.size∧w.cell? ⟨g,T.length,none⟩=some (.int .i64 x):=by
 rcases h.2 with⟨rfl,hz⟩|⟨g,cap,cur,rfl,_,hg,r1,r2,r3,r4⟩
 ·refine⟨none,0,by rw[hz],fun T x U e=> ?_⟩;rw[e] at hz;simp at hz
 ·refine⟨_,cap,rfl,fun T x U e=>⟨g,rfl,lQ hg, ?_⟩⟩;have h2:(cur.toList.take (xs.length*1))[T.length]? =(xs.map encI)[T.length]? :=by rw[r4]
  rw[List.getElem?_take_of_lt (by rw[e];simp),List.getElem?_map] at h2;have h3:xs[T.length]? =some x:=by rw[e];simp
  rw[h3] at h2;unfold World.cell?;rw[hg]
  simpa [encI] using h2
structure Wp(w:World)(base wb:Nat)(s c l:Int)(mv sv:Value)(rb:Nat)(fv:Value)(M:List (Option Nat))(L:List Flt):Prop where
 wr:Wr w wb s c l mv sv rb fv
 m:w.ownsRow base 32 1 mv M.length (M.map Cl.ptr)
 fl:w.ownsRow base 93 3 fv L.length (flC L)
 b0:base≤wb
 o1:∀g,mv.ownBlock=some g→g≠wb∧fv.ownBlock≠some g
 o3:∀g,fv.ownBlock=some g→g≠wb
theorem Wo.wp{w w':World}{base wb rb k:Nat}{s c l:Int}{mv sv fv:Value}{M:List (Option Nat)}{N:List Int}{f:Int→Option Int}{L:List Flt}(h:Wo w base wb s c l mv sv rb fv M N f k L)(hm:Mod (fun q=>sv.ownBlock=some q) w w'):Wp w' base wb s c l mv sv rb fv M L:=
 ⟨h.wr.mod hm fun e=>(h.o2 _ e).1 rfl,ownsRow_keep h.m fun g hg=>hm.block g (Pr.row_lt h.m hg).2 fun e=>(h.o1 g hg).2.2.1 e,ownsRow_keep h.fl fun g hg=>hm.block g (Pr.row_lt h.fl hg).2 fun e=>(h.o2 g e).2.2 hg,h.b0.1,fun g hg=>⟨(h.o1 g hg).1,(h.o1 g hg).2.2.2⟩,fun g hg=>(h.o3 g hg).1⟩
theorem Wp.below{w w':World}{base wb rb:Nat}{s c l:Int}{mv sv fv:Value}{M:List (Option Nat)}{L:List Flt}(h:Wp w base wb s c l mv sv rb fv M L)(hb:Below w.heap.size w w'):Wp w' base wb s c l mv sv rb fv M L:=
 { h with wr:=h.wr.below hb,m:=ownsRow_keep h.m fun g hg=>hb.block g (Pr.row_lt h.m hg).2,fl:=ownsRow_keep h.fl fun g hg=>hb.block g (Pr.row_lt h.fl hg).2 }
namespace Wr
def GatherP(w:World)(base wb:Nat)(mv sv:Value)(rb:Nat)(fv:Value)(x0 x1:Nat)(t1:ByteArray)(r:Ending)(w':World):Prop:=
 r=.returned (.tuple #[.int .i64 2,.int .i64 0])∧∃fv',Wp w' base wb 2 0 1 mv sv rb fv' [some x0,some x1] [⟨0,1,t1⟩]∧Mod (Wo.foot wb rb mv sv fv) w w'
theorem gather{w:World}{base wb rb k x0 x1:Nat}{mv sv fv:Value}{f:Int→Option Int}(h:Wo w base wb 0 0 0 mv sv rb fv [some x0,some x1] [0,0] f k []){t1 t2:ByteArray}(hT:∀V,Below w.heap.size w V→Calls Tryz.prog 36 #[.pointer (some ⟨x0,0,none⟩)] V (Ex.TraceP V [⟨2,1,t1,0⟩,⟨2,1,t2,0⟩]))
  {p1 p2:Int} (h1:Ni.portV t1 22=p1∧Ni.portB t1=true∧f p1=some 1∧0≤p1∧p1<65536) (h2:Ni.portV t2 22=p2∧Ni.portB t2=true∧f p2=none∧0≤p2∧p2<65536) (s1:t1.size<140737488355328) (s2:t2.size<140737488355328):
  Calls Tryz.prog 8 #[.pointer (some ⟨wb,0,none⟩),.int .i64 0] w (GatherP w base wb mv sv rb fv x0 x1 t1):=by
 have HFin:=Lh fun V fv' (g1:Wp V base wb 2 0 1 mv sv rb fv' [some x0,some x1] [⟨0,1,t1⟩]) (g2:Mod (Wo.foot wb rb mv sv fv) w V)=>(show GatherP w base wb mv sv rb fv x0 x1 t1 (.returned (.tuple #[.int .i64 2,.int .i64 0])) V from⟨rfl,fv',g1,g2⟩)
 generalize GatherP w base wb mv sv rb fv x0 x1 t1=PQ at*;obtain⟨c0,c1,c2,c3,c4,c5,c6,_⟩:=h.wr.cells;obtain⟨mo,mc,hmv,hma⟩:=Cl.Ptrs.of_own h.m;obtain⟨mg,rfl,hml,hm0⟩:=hma [] (some x0) [some x1] rfl;obtain⟨so,sc,hsv,hsa⟩:=int_at h.n;obtain⟨sg,rfl,hsl,hs0⟩:=hsa [] 0 [0] rfl;have hmv:mv=.slice (some ⟨mg,0,none⟩) 2 mc:=hmv;have hsv:sv=.slice (some ⟨sg,0,none⟩) 2 sc:=hsv;subst hmv hsv;have hm0:w.cell? ⟨mg,0,none⟩=some (.pointer (some ⟨x0,0,none⟩)):=hm0;have hs0:w.cell? ⟨sg,0,none⟩=some (.int .i64 0):=hs0;have HH:=Lh (show Calls Tryz.prog 34 #[.pointer (some ⟨wb,0,none⟩),.int .i64 0] w fun r w'=>r=.returned (.int .i64 0)∧w=w' from h.wr.has 0 (by omega) (by omega));have HWo:=Lh h;have HTt:=Lh hT;have HP1:=Lh h1;have HP2:=Lh h2;have HSz:=Lh (And.intro s1 s2);have HSa:=Lh (And.intro hsl hs0);clear h hma hsa hT h1 h2 s1 s2 hml hsl;go_enter func8,ntmps8;go_wp2_with fail;refine HH.out.mono ?_;rintro r w1 ⟨rfl,rfl⟩;go_wp2_with fail;refine(HTt.out w Br).mono ?_;rintro r w1 ⟨tv,rfl,hev,hb1⟩;rcases hev.2 with⟨e,_⟩|⟨tg,off,tcap,cur,rfl,hg,hnc,hcm,hcs,hc⟩
 ·cases e
 have hcl:∀j,j<8→w1.cell? ⟨tg,off+j,none⟩=(eveC [⟨2,1,t1,0⟩,⟨2,1,t2,0⟩])[j]? :=fun j hj=>by
  unfold World.cell?;rw[hg];exact hc j (by simp;omega)
 have HCl:=Lh (And.intro hcl hg);have e0:w1.cell? ⟨tg,off,none⟩=some (.int .u8 2):=hcl 0 (by omega);have e1:w1.cell? ⟨tg,off+1,none⟩=some (.int .i64 1):=hcl 1 (by omega);have e2:w1.cell? ⟨tg,off+2,none⟩=some (.string t1):=hcl 2 (by omega);have e3:w1.cell? ⟨tg,off+3,none⟩=some (.int .u32 0):=hcl 3 (by omega);have HW1:=Lh (HWo.out.below hb1);have HB1:=Lh hb1;obtain⟨d0,d1,d2,d3,d4,d5,d6,df⟩:=HW1.out.wr.cells;have hs1:w1.cell? ⟨sg,0,none⟩=some (.int .i64 0):=(hb1.cell (p:=⟨sg,0,none⟩) HSa.out.1).trans HSa.out.2;have df0:=df 0;have hc0:¬tcap=0:=by have:2≤tcap:=hnc;omega
 have hc1:tcap≤9223372036854775807:=by unfold maxLen at hcm;omega
 have HNc:=Lh (show 2≤tcap from hnc);clear hev hg hnc hcm hcs hc hcl hb1 c0 c1 c2 c3 c4 c5 c6 hm0 hs0 HH;go_wp2_with fail;refine wp_loop_rounds 3 ?_;rw[rounds_succ];go_upto_region 10 with(fail);have hA:=(Below.refl w1.heap.size w1).alloc (Nat.le_refl _) (.cells #[.int .u8 2,.int .i64 1,.string t1,.int .u32 0] 89);have hN:=heap_alloc_new w1 (.cells #[.int .u8 2,.int .i64 1,.string t1,.int .u32 0] 89);have hfw:w1.heap.size≠wb:=fun e=>Nat.lt_irrefl _ (e▸lQ HW1.out.wr.blk)
 obtain⟨w2,hw2⟩:∃y,w1.alloc (.cells #[.int .u8 2,.int .i64 1,.string t1,.int .u32 0] 89)=y:=⟨_,rfl⟩;obtain⟨eb,heb⟩:∃y,w1.heap.size=y:=⟨_,rfl⟩;rw[hw2] at hA hN;rw[hw2,heb];rw[heb] at hN hfw;have HEb:=Lh heb;have HW2:=Lh (HW1.out.below hA);have HA2:=Lh hA;obtain⟨hw3,hm3⟩:=HW2.out.cell3 0 1 (by omega);have HW3:Hid (Wo _ base wb 1 0 0 _ _ rb fv _ _ f k []):=Lh hw3;have HM3:=Lh hm3;have HN3:=Lh ((hm3.block eb (lQ hN) hfw).trans hN);clear e0 e1 e2 e3 d0 d1 d2 d3 d4 d5 d6 df0 hs1 hw2 heb hA hN hw3 hm3 df;obtain⟨d0,d1,d2,d3,d4,d5,d6,df⟩:=HW2.out.wr.cells;have df0:=df 0;clear df;go_upto_region 11 with(fail);generalize w2.setCell ⟨wb,0,none⟩ (.int .i64 1)=w3 at*;have hb2:w3.cell? ⟨eb,2,none⟩=some (.string t1):=by unfold World.cell?;rw[HN3.out];rfl
 clear d0 d1 d2 d3 d4 d5 d6 df0;go_wp2_with fail;refine(Ni.to_ t1 HSz.out.1 w3).mono ?_;rintro r w4 ⟨rfl,hb4⟩;rw[HP1.out.1,HP1.out.2.1];have HB4:=Lh hb4;clear hb4 hb2;go_wp2_with fail;refine(Wr.to_ (HW3.out.below HB4.out).wr (HW3.out.below HB4.out).r p1 HP1.out.2.2.2.1 HP1.out.2.2.2.2).mono ?_;rintro r w5 ⟨rfl,rfl⟩;rw[HP1.out.2.2.1];simp only[Option.getD_some,Option.isSome_some];have HW4:=Lh (HW3.out.below HB4.out);have HN4:=Lh ((HB4.out.block _ (lQ HN3.out)).trans HN3.out);obtain⟨fo,fc,hfv⟩:=Pr.row_shape HW4.out.fl;have hfv:fv=.slice fo 0 fc:=hfv;subst hfv;go_upto_region 15 with(fail);have hS4:w4.cell? ⟨wb,6,none⟩=some (.slice fo 0 fc)∧w4.cell? ⟨eb,2,none⟩=some (.string t1)∧True:=⟨HW4.out.wr.cells.2.2.2.2.2.2.1,by unfold World.cell?;rw[HN4.out];rfl,trivial⟩;refine LB (fun V=>V.cell? ⟨wb,6,none⟩=some (.slice fo 0 fc)∧V.cell? ⟨eb,2,none⟩=some (.string t1)∧True) 14 hS4 fun wd hwd hS=> ?_
 have HBw:=Lh (show Below w4.heap.size w4 wd by rw[hwd];exact Br.drew);clear hwd hS4;refine LT 0 hS ?_;refine LT 1 hS ?_;refine LT 2 hS ?_;refine LT 3 hS ?_;refine LT 4 hS ?_;refine LT 5 hS ?_;refine LT 6 hS ?_;refine LT 7 hS ?_;refine LT 8 hS ?_;refine LT 9 hS ?_;refine LU 10 fun K hK=> ?_
 go_simp;have hA6:=(Below.refl wd.heap.size wd).alloc (Nat.le_refl _) (.cells #[.int .i64 0,.int .i64 1,.string t1] 93);have HN6:=Lh (heap_alloc_new wd (.cells #[.int .i64 0,.int .i64 1,.string t1] 93));have HW6:=Lh ((HW4.out.below HBw.out).below hA6);have HB6:=Lh (bQ HBw.out hA6);have hS6:(wd.alloc (.cells #[.int .i64 0,.int .i64 1,.string t1] 93)).cell? ⟨wb,6,none⟩=some (.slice fo 0 fc)∧(wd.alloc (.cells #[.int .i64 0,.int .i64 1,.string t1] 93)).cell? ⟨eb,2,none⟩=some (.string t1)∧True:=⟨HW6.out.wr.cells.2.2.2.2.2.2.1,by
  have:=(hA6.block eb (Nat.lt_of_lt_of_le (lQ HN4.out) HBw.out.size)).trans ((HBw.out.block eb (lQ HN4.out)).trans HN4.out);unfold World.cell?;rw[this];rfl,trivial⟩
 clear hA6 hS;refine LV hK (fun _=>hS6) ?_;clear hK K;refine LU 11 fun K hK=> ?_
 obtain⟨i0,hi,hz0,hz1,hz2⟩:=info_parts info_flt;refine step_append_lies _ (by rfl) _ _ _ (by rfl) base 93 i0 (.agg #[.int .i64 0,.int .i64 0,.string ByteArray.empty]) 3 32 Tryz.underlying35 hi hz0 hz1 hz2 rfl (by omega) (.slice fo 0 fc) 0 [] (by rfl) HW6.out.fl ⟨wd.heap.size,0,none⟩ 1 1 [.int .i64 0,.int .i64 1,.string t1] (by rfl) (by rfl) (World.news_of_block HN6.out) (fun u hu=>by simp at hu;rcases hu with rfl|rfl|rfl<;>rfl) (by omega) (by decide) (by omega) (Nat.le_trans HW6.out.b0.1 (Nat.le_of_lt (lQ HW6.out.wr.blk))) _ rfl ?_;intro g7 cap7 w7 hr7 hg7 ho7 _;have hr8:w7.ownsRow base 93 3 (.slice (some ⟨g7,0,none⟩) 1 cap7) [(⟨0,1,t1⟩:Flt)].length (flC [⟨0,1,t1⟩]):=hr7;obtain⟨d0,d1,d2,d3⟩:=HW6.out.setF hg7 hr8 (ho7.imp id fun q=>Nat.le_of_eq q.symm);have HW8:=Lh d2;have HM8:=Lh d3;have hb7:w7.heap[eb]? =some (.cells #[.int .u8 2,.int .i64 1,.string t1,.int .u32 0] 89 (0,0)):=by
  have hn:=(HB6.out.block eb (lQ HN4.out)).trans HN4.out;refine(hg7.block eb (Nat.lt_of_lt_of_le (lQ HN4.out) HB6.out.size) fun e=> ?_).trans hn;rcases HW6.out.fl.2 with⟨z,_⟩|⟨g,cap,cur,z,_,hgf,_⟩
  ·rw[z] at e;cases e
  ·have:some g=some eb:=by rw[z] at e;exact e.symm
   cases this;rw[hn] at hgf;cases hgf
 have hS7:w7.cell? ⟨wb,6,none⟩=some (.slice fo 0 fc)∧w7.cell? ⟨eb,2,none⟩=some (.string t1)∧True:=⟨d1,by unfold World.cell?;rw[hb7];rfl,trivial⟩;clear hr7 hr8 hg7 ho7 d2 d3 hS6 hb7;refine LV hK (fun _=>hS7) ?_;clear hK K;refine LU 12 fun K hK=> ?_
 go_simp;refine LV hK (fun _=>hS7) ?_;clear hK K;refine LT 13 hS7 ?_;refine LU 14 fun K hK=> ?_
 go_simp;generalize w7.setCell ⟨wb,6,none⟩ (.slice (some ⟨g7,0,none⟩) 1 cap7)=w8 at*;refine LV hK (fun e=>absurd rfl e) ?_;clear hK K;refine E_done (by kernel_rfl) ?_ _;clear hS7 d0 d1;go_wp2_with fail;rw[rounds_succ];have htw:tg≠wb:=fun e=>by
  have:=HW1.out.wr.blk;rw[←e,HCl.out.2] at this;cases this
 have htl:=lQ HCl.out.2;have hk6:(wd.alloc (.cells #[.int .i64 0,.int .i64 1,.string t1] 93)).heap[tg]? =some (.cells cur 89 (0,0)):=by
  have l2:=Nat.lt_of_lt_of_le htl HA2.out.size;have l3:=Nat.lt_of_lt_of_le l2 HM3.out.size;have l4:=Nat.lt_of_lt_of_le l3 HB4.out.size;exact(HB6.out.block tg l4).trans ((HB4.out.block tg l3).trans ((HM3.out.block tg l2 htw).trans ((HA2.out.block tg htl).trans HCl.out.2)))
 have hk8:w8.heap[tg]? =some (.cells cur 89 (0,0)):=by
  refine(HM8.out.block tg (lQ hk6) fun e=> ?_).trans hk6;rcases e with e|e
  ·exact htw e
  ·rcases HW6.out.fl.2 with⟨z,_⟩|⟨g,cap,cur',z,_,hgf,_⟩
   ·rw[z] at e;cases e
   ·have:some g=some tg:=by rw[z] at e;exact e
    cases this;rw[hk6] at hgf;cases hgf
 have hcl:∀j,j<8→w8.cell? ⟨tg,off+j,none⟩=(eveC [⟨2,1,t1,0⟩,⟨2,1,t2,0⟩])[j]? :=fun j hj=>by
  rw[←HCl.out.1 j hj];unfold World.cell?;rw[hk8,HCl.out.2]
 have e0:w8.cell? ⟨tg,off+4,none⟩=some (.int .u8 2):=hcl 4 (by omega);have e1:w8.cell? ⟨tg,off+4+1,none⟩=some (.int .i64 1):=hcl 5 (by omega);have e2:w8.cell? ⟨tg,off+4+2,none⟩=some (.string t2):=hcl 6 (by omega);have e3:w8.cell? ⟨tg,off+4+3,none⟩=some (.int .u32 0):=hcl 7 (by omega);clear htw htl hk6 hcl;go_upto_region 10 with(fail);have hA:=(Below.refl w8.heap.size w8).alloc (Nat.le_refl _) (.cells #[.int .u8 2,.int .i64 1,.string t2,.int .u32 0] 89);have hN:=heap_alloc_new w8 (.cells #[.int .u8 2,.int .i64 1,.string t2,.int .u32 0] 89);have hfw2:w8.heap.size≠wb:=fun e=>Nat.lt_irrefl _ (e▸lQ HW8.out.wr.blk)
 obtain⟨w9,hw9⟩:∃y,w8.alloc (.cells #[.int .u8 2,.int .i64 1,.string t2,.int .u32 0] 89)=y:=⟨_,rfl⟩;obtain⟨eb2,heb2⟩:∃y,w8.heap.size=y:=⟨_,rfl⟩;rw[hw9] at hA hN;rw[hw9,heb2];rw[heb2] at hN hfw2;have HW9:=Lh (HW8.out.below hA);have HA9:=Lh hA;obtain⟨hw10,hm10⟩:=HW9.out.cell3 0 2 (by omega);have HW10:Hid (Wo _ base wb 2 0 0 _ _ rb (.slice (some ⟨g7,0,none⟩) 1 cap7) _ _ f k [⟨0,1,t1⟩]):=Lh hw10;have HM10:=Lh hm10;have HN10:=Lh ((hm10.block eb2 (lQ hN) hfw2).trans hN);clear e0 e1 e2 e3 hw9 heb2 hA hN hw10 hm10 hk8;obtain⟨d0,d1,d2,d3,d4,d5,d6,df⟩:=HW9.out.wr.cells;have df0:=df 0;clear df;go_upto_region 11 with(fail);generalize w9.setCell ⟨wb,0,none⟩ (.int .i64 2)=w10 at*;have hb2:w10.cell? ⟨eb2,2,none⟩=some (.string t2):=by unfold World.cell?;rw[HN10.out];rfl
 clear d0 d1 d2 d3 d4 d5 d6 df0;go_wp2_with fail;refine(Ni.to_ t2 HSz.out.2 w10).mono ?_;rintro r w11 ⟨rfl,hb11⟩;rw[HP2.out.1,HP2.out.2.1];have HB11:=Lh hb11;clear hb11 hb2;go_wp2_with fail;refine(Wr.to_ (HW10.out.below HB11.out).wr (HW10.out.below HB11.out).r p2 HP2.out.2.2.2.1 HP2.out.2.2.2.2).mono ?_;rintro r w12 ⟨rfl,rfl⟩;rw[HP2.out.2.2.1];simp only[Option.getD_none,Option.isSome_none];have HW11:=Lh (HW10.out.below HB11.out);obtain⟨d0,d1,d2,d3,d4,d5,d6,df⟩:=HW11.out.wr.cells;have df2:=df 2;obtain⟨hw12,hm12⟩:=HW11.out.cell3 2 1 (by omega);have HW12:Hid (Wo _ base wb 2 0 1 _ _ rb (.slice (some ⟨g7,0,none⟩) 1 cap7) _ _ f k [⟨0,1,t1⟩]):=Lh hw12;have HM12:=Lh hm12;clear df hw12 hm12;go_wp2_with fail;rw[rounds_succ];generalize w11.setCell ⟨wb,2,none⟩ (.int .i64 1)=w12 at*;clear d0 d1 d2 d3 d4 d5 d6 df2;obtain⟨d0,d1,d2,d3,d4,d5,d6,_⟩:=HW12.out.wr.cells;have hsb:w12.cell? ⟨sg,0,none⟩=some (.int .i64 0)∧w12.frozen? ⟨sg,0,none⟩=false:=by
  rcases HW12.out.n.2 with⟨e,_⟩|⟨g,cap,cur,e,_,hg,q1,q2,q3,q4⟩
  ·cases e
  ·cases e;refine⟨?_,by unfold World.frozen?;rw[hg];simp⟩;have h0:(cur.toList.take (2*1))[0]? =some (.int .i64 0):=by
    have:=congrArg (fun z:List Value=>z[0]?) q4;exact this
   rw[List.getElem?_take_of_lt (by omega)] at h0;unfold World.cell?;rw[hg]
   simpa using h0
 obtain⟨hsb1,hsb2⟩:=hsb;have hm13:Mod (fun q=>q=sg) w12 (w12.setCell ⟨sg,0,none⟩ (.int .i64 2)):=Mod.setCell (F:=fun q=>q=sg) (Mod.refl _ _) ⟨sg,0,none⟩ (.inl rfl) _;have hwp:=HW12.out.wp (w':=w12.setCell ⟨sg,0,none⟩ (.int .i64 2)) (hm13.mono fun q _ e=>by rw[e];rfl);have hmd:Mod (Wo.foot wb rb (.slice (some ⟨mg,0,none⟩) 2 mc) (.slice (some ⟨sg,0,none⟩) 2 sc) (.slice fo 0 fc)) w (w12.setCell ⟨sg,0,none⟩ (.int .i64 2)):=by
  have z1:=Mod.of_below HB1.out (Wo.foot wb rb (.slice (some ⟨mg,0,none⟩) 2 mc) (.slice (some ⟨sg,0,none⟩) 2 sc) (.slice fo 0 fc));have z2:=z1.trans (Mod.of_below HA2.out fun _=>False) fun i _ e=>e.elim
  have z3:=z2.trans HM3.out fun i _ e=>.inl (.inl e)
  have z4:=z3.trans (Mod.of_below HB4.out fun _=>False) fun i _ e=>e.elim
  have z6:=z4.trans (Mod.of_below HB6.out fun _=>False) fun i _ e=>e.elim
  have z8:=z6.trans HM8.out fun i _ e=>.inl (e.elim .inl fun e=>.inr (.inr (.inr (.inr e))))
  have z9:=z8.trans (Mod.of_below HA9.out fun _=>False) fun i _ e=>e.elim
  have z10:=z9.trans HM10.out fun i _ e=>.inl (.inl e)
  have z11:=z10.trans (Mod.of_below HB11.out fun _=>False) fun i _ e=>e.elim
  have z12:=z11.trans HM12.out fun i _ e=>.inl (.inl e)
  exact z12.trans hm13 fun i _ e=>.inl (.inr (.inr (.inr (.inl (by rw[e];rfl)))))
 have HE:=Lh (HFin.out _ _ hwp hmd);clear hm13 hwp hmd;go_wp2;exact HE.out
end Wr
open Go.RowKit Pag
theorem arr_q{S:Ni.NicS}(h:∀x s,s∈S.q x→s.size≤128)(t:ByteArray):∀x s,s∈(Ni.arriveS S t).q x→s.size≤128:=fun x s hs=>by
 unfold Ni.arriveS at hs
 split at hs
 ·rename_i hm
  split at hs
  ·have hs:s∈Ni.updQ S.q (Ni.portV t 22) (S.q (Ni.portV t 22)++[t]) x:=hs;unfold Ni.updQ at hs
   split at hs
   ·rcases List.mem_append.1 hs with g|g
    ·exact h _ s g
    ·simp at g;subst g;unfold Ni.mayB at hm;simp at hm;exact hm.2
   ·exact h x s hs
  ·exact h x s hs
 ·exact h x s hs
theorem arr_g{S:Ni.NicS}(h:0≤S.gone)(t:ByteArray):0≤(Ni.arriveS S t).gone:=by
 unfold Ni.arriveS
 split
 ·split
  ·exact h
  ·show 0≤S.gone+1
   omega
 ·exact h
theorem Ex.arrive{w:World}{xb:Nat}{S:Nat→Slt}{tv:Value}{a:KAt}{K:Kn}(h:Ex w xb a.kb S tv)(hk:Knl w a K)(t:ByteArray)(ht:t.size<140737488355328)(g1:K.N.gone<9223372036854775807):
  Calls Tryz.prog 40 #[.pointer (some ⟨xb,0,none⟩),.string t] w fun e w'=>(∃x,e=.returned (.int .i64 x))∧Mod a.wf w w':=by
 have HH:=Lh h.kernel;have HK:=Lh (Kl.nic hk);have HA:=Lh (show Calls Tryz.prog 74 #[.pointer (some ⟨a.nb,0,none⟩),.string t] w fun e w'=>e=.returned (.tuple #[.int .u16 (Ni.arriveP t),.bool (Ni.arriveB K.N t),.int .i64 (Ni.arriveE t)])∧Mod a.wf w w' from(Ni.arrive hk.nic t ht hk.ok.g0 g1).mono fun e w' ⟨k1,k2,k3⟩=>⟨k1,(KStep.setNic hk k2 k3 (arr_q hk.ok.q t) (arr_g hk.ok.g0 t)).mod⟩);clear h hk;go_enter func40,ntmps40;go_wp2_with fail;refine HH.out.mono ?_;rintro r w1 ⟨rfl,rfl⟩;go_wp2_with fail;refine HK.out.mono ?_;rintro r w1 ⟨rfl,rfl⟩;go_wp2_with fail;refine HA.out.mono ?_;rintro r w1 ⟨rfl,hm⟩;have HM:=Lh hm;clear hm;go_wp2;go_ret;exact⟨⟨_,rfl⟩,HM.out⟩
namespace Wr
theorem come1{w:World}{base wb rb x0 x1:Nat}{mv sv fv:Value}{t:ByteArray}(h:Wp w base wb 2 0 1 mv sv rb fv [some x0,some x1] [⟨0,1,t⟩]){a:KAt}{K:Kn}{S:Nat→Slt}{tv:Value}(hx:Ex w x1 a.kb S tv)(hk:Knl w a K)(hf:∀q,q=wb∨mv.ownBlock=some q∨fv.ownBlock=some q→a.tag q=0)(ht:t.size<140737488355328)(hg:K.N.gone<9223372036854775807):
  Calls Tryz.prog 13 #[.pointer (some ⟨wb,0,none⟩),.int .i64 0] w fun r w'=>r=.returned (.int .i64 0)∧∃fo fc,Wr w' wb 2 1 1 mv sv rb (.slice fo 0 fc)∧Mod (fun q=>a.wf q∨q=wb∨fv.ownBlock=some q) w w':=by
 obtain⟨c0,c1,c2,c3,c4,c5,c6,_⟩:=h.wr.cells;obtain⟨mo,mc,hmv,hma⟩:=Cl.Ptrs.of_own h.m;obtain⟨mg,rfl,hml,hm1⟩:=hma [some x0] (some x1) [] rfl;have hmv:mv=.slice (some ⟨mg,0,none⟩) 2 mc:=hmv;subst hmv;have hm1:w.cell? ⟨mg,1,none⟩=some (.pointer (some ⟨x1,0,none⟩)):=hm1;have hmb:∃cm,w.heap[mg]? =some (.cells cm 32 (0,0)):=by
  rcases h.m.2 with⟨e,_⟩|⟨g,cap,cur,e,_,hb,_⟩
  ·cases e
  ·cases e;exact⟨_,hb⟩
 obtain⟨fg,fc,cf,rfl,hfb,hfc⟩:∃fg fc cf,fv=.slice (some ⟨fg,0,none⟩) 1 fc∧w.heap[fg]? =some (.cells cf 93 (0,0))∧cf.toList.take 3=[.int .i64 0,.int .i64 1,.string t]:=by
  rcases h.fl.2 with⟨e1,e2⟩|⟨fg,cap,cur,rfl,_,hb,r1,r2,r3,r4⟩
  ·simp at e2
  ·exact⟨fg,cap,cur,rfl,hb,by simpa [flC,Flt.cells] using r4⟩
 have hfj:∀j,j<3→w.cell? ⟨fg,j,none⟩=([.int .i64 0,.int .i64 1,.string t]:List Value)[j]? :=fun j hj=>by
  have h2:(cf.toList.take 3)[j]? =([.int .i64 0,.int .i64 1,.string t]:List Value)[j]? :=by rw[hfc]
  rw[List.getElem?_take_of_lt hj] at h2;unfold World.cell?;rw[hfb]
  simpa using h2
 have f0:w.cell? ⟨fg,0,none⟩=some (.int .i64 0):=hfj 0 (by omega);have f1:w.cell? ⟨fg,1,none⟩=some (.int .i64 1):=hfj 1 (by omega);have f2:w.cell? ⟨fg,2,none⟩=some (.string t):=hfj 2 (by omega);have HAt:=Lh (show Calls Tryz.prog 39 #[.pointer (some ⟨wb,0,none⟩),.int .i64 0] w fun r w'=>r=.returned (.int .i64 0)∧w=w' from h.wr.at_ok 0 (by omega) (by omega));have HW:=Lh h;have HX:=Lh hx;have HK:=Lh hk;have HT:=Lh (And.intro ht hg);have HFt:=Lh hf;have HMb:=Lh hmb;have HMl:=Lh (And.intro hml hm1);clear h hx hk ht hg hf hmb hma hml hfb hfc hfj;go_enter func13,ntmps13;go_wp2_with fail;refine HAt.out.mono ?_;rintro r w1 ⟨rfl,rfl⟩;go_upto_region 5 with(fail);have hA:=(Below.refl w.heap.size w).alloc (Nat.le_refl _) (.cells #[.int .i64 0,.int .i64 1,.string t] 93);have hN:=heap_alloc_new w (.cells #[.int .i64 0,.int .i64 1,.string t] 93);obtain⟨w2,hw2⟩:∃y,w.alloc (.cells #[.int .i64 0,.int .i64 1,.string t] 93)=y:=⟨_,rfl⟩;obtain⟨eb,heb⟩:∃y,w.heap.size=y:=⟨_,rfl⟩;have hlt:wb<w.heap.size:=lQ HW.out.wr.blk;rw[hw2] at hA hN;rw[hw2,heb];rw[heb] at hN;have HB:=Lh hA;have HN:=Lh hN;have HEb:=Lh heb;have HH:Hid (Ex w2 x1 a.kb S tv∧Knl w2 a K):=Lh ⟨HX.out.below hA,HK.out.below hA⟩;have HW2:=Lh (HW.out.below hA);have hm2:w2.cell? ⟨mg,1,none⟩=some (.pointer (some ⟨x1,0,none⟩)):=(hA.cell (p:=⟨mg,1,none⟩) HMl.out.1).trans hm1;have hS0:w2.cell? ⟨wb,3,none⟩=some (.slice (some ⟨mg,0,none⟩) 2 mc)∧w2.cell? ⟨eb,1,none⟩=some (.int .i64 1)∧w2.cell? ⟨eb,2,none⟩=some (.string t)∧w2.cell? ⟨mg,1,none⟩=some (.pointer (some ⟨x1,0,none⟩))∧True:=
  ⟨HW2.out.wr.cells.2.2.2.1,by unfold World.cell?;rw[hN];rfl,by unfold World.cell?;rw[hN];rfl,hm2,trivial⟩
 have HTg:Hid (a.tag wb=0∧a.tag mg=0∧a.tag fg=0∧a.tag eb=0):=Lh ⟨HFt.out wb (.inl rfl),HFt.out mg (.inr (.inl rfl)),HFt.out fg (.inr (.inr rfl)),Decidable.byContradiction fun z=>by have:=HK.out.lt eb z;omega⟩;have HSz:Hid (wb<w2.heap.size∧mg<w2.heap.size∧eb<w2.heap.size):=Lh ⟨Nat.lt_of_lt_of_le hlt hA.size,Nat.lt_of_lt_of_le HMl.out.1 hA.size,lQ hN⟩;clear hA hN hw2 heb hlt c0 c1 c2 c3 c4 c5 c6 f0 f1 f2 hm1 hm2 HX HK HAt HW HFt;refine B (fun V=>V.cell? ⟨wb,3,none⟩=some (.slice (some ⟨mg,0,none⟩) 2 mc)∧V.cell? ⟨eb,1,none⟩=some (.int .i64 1)∧V.cell? ⟨eb,2,none⟩=some (.string t)∧V.cell? ⟨mg,1,none⟩=some (.pointer (some ⟨x1,0,none⟩))∧True) hS0 fun wd hwd hS=> ?_
 have HBw:=Lh (show Below w2.heap.size w2 wd by rw[hwd];exact Br.drew);clear hwd hS0;refine T 0 hS ?_;refine T 1 hS ?_;refine T 2 hS ?_;refine T 3 hS ?_;refine T 4 hS ?_;refine T 5 hS ?_;refine T 6 hS ?_;refine T 7 hS ?_;refine T 8 hS ?_;refine T 9 hS ?_;refine U 10 fun K' hK=> ?_
 go_simp;go_at_call 40;refine(Ex.arrive (HH.out.1.below HBw.out) (HH.out.2.below HBw.out) t HT.out.1 HT.out.2).mono ?_;rintro r w3 ⟨⟨z,rfl⟩,hm3⟩;have hm23:Mod a.wf w2 w3:=(Mod.of_below HBw.out _).trans hm3 fun _ _ g=>.inl g
 have hne:∀q,a.tag q=0→¬a.wf q:=fun q h g=>g.1 h
 have k0:=hm23.block wb HSz.out.1 (hne _ HTg.out.1);have k1:=hm23.block mg HSz.out.2.1 (hne _ HTg.out.2.1);have k2:=hm23.block eb HSz.out.2.2 (hne _ HTg.out.2.2.2);have hS3:w3.cell? ⟨wb,3,none⟩=some (.slice (some ⟨mg,0,none⟩) 2 mc)∧w3.cell? ⟨eb,1,none⟩=some (.int .i64 1)∧w3.cell? ⟨eb,2,none⟩=some (.string t)∧w3.cell? ⟨mg,1,none⟩=some (.pointer (some ⟨x1,0,none⟩))∧True:=by
  unfold World.cell?;rw[k0,k1,k2];have q:=HW2.out.wr.cells.2.2.2.1;unfold World.cell? at q;refine⟨q,by rw[HN.out];rfl,by rw[HN.out];rfl, ?_,trivial⟩;obtain⟨cm,hcm⟩:=HMb.out;have e:=HMl.out.2;unfold World.cell? at e;rw[HB.out.block mg HMl.out.1];exact e
 have HM3:=Lh hm23;have HW3:=Lh (HW2.out.wr.mod hm23 (hne _ HTg.out.1));have HF3:=Lh (ownsRow_keep HW2.out.fl fun g hg=>hm23.block g (Pr.row_lt HW2.out.fl hg).2 (hne _ (by cases hg;exact HTg.out.2.2.1)));have HFw:=Lh (HW2.out.o3 fg rfl);clear hm3 hm23 hne k0 k1 k2 hS HW2;refine V hK hS3 ?_;clear hK K';refine wpAnyH_done (by kernel_rfl) ?_ _;clear hS3;obtain⟨c0,c1,c2,c3,c4,c5,c6,_⟩:=HW3.out.cells;go_wp2_with fail;refine(Cl.delete_flt HF3.out).mono ?_;rintro r w4 ⟨rfl,hm4⟩;have HM4:=Lh hm4;have hw4:=HW3.out.mod hm4 (fun e=>HFw.out e.symm);have HW4:=Lh hw4;clear c0 c1 c2 c3 c4 c5 c6 hm4 hw4;obtain⟨c0,c1,c2,c3,c4,c5,c6,cf⟩:=HW4.out.cells;have cf6:=cf 6;clear cf;go_upto_region 7 with(fail);have hw5:Wr (w4.setCell ⟨wb,6,none⟩ (.slice (some ⟨fg,0,none⟩) 0 fc)) wb 2 0 1 (.slice (some ⟨mg,0,none⟩) 2 mc) sv rb (.slice (some ⟨fg,0,none⟩) 0 fc):=⟨heap_setCell_same w4 wb 6 _ _ (.slice (some ⟨fg,0,none⟩) 0 fc) HW4.out.blk⟩;have hm5:Mod (fun q=>q=wb) w4 (w4.setCell ⟨wb,6,none⟩ (.slice (some ⟨fg,0,none⟩) 0 fc)):=Mod.setCell (F:=fun i=>i=wb) (Mod.refl _ _) ⟨wb,6,none⟩ (.inl rfl) _;have HW5:=Lh hw5;have HM5:=Lh hm5;clear c0 c1 c2 c3 c4 c5 c6 cf6 hw5 hm5;generalize w4.setCell ⟨wb,6,none⟩ (.slice (some ⟨fg,0,none⟩) 0 fc)=w5 at*;obtain⟨c0,c1,c2,c3,c4,c5,c6,cf⟩:=HW5.out.cells;have cf1:=cf 1;clear cf;have hw6:Wr (w5.setCell ⟨wb,1,none⟩ (.int .i64 1)) wb 2 1 1 (.slice (some ⟨mg,0,none⟩) 2 mc) sv rb (.slice (some ⟨fg,0,none⟩) 0 fc):=⟨heap_setCell_same w5 wb 1 _ _ (.int .i64 1) HW5.out.blk⟩;have hm6:Mod (fun q=>q=wb) w5 (w5.setCell ⟨wb,1,none⟩ (.int .i64 1)):=Mod.setCell (F:=fun i=>i=wb) (Mod.refl _ _) ⟨wb,1,none⟩ (.inl rfl) _;have HW6:=Lh hw6;have HM6:=Lh hm6;clear hw6 hm6;go_wp2;go_ret;have m3:Mod (fun q=>a.wf q∨q=wb∨(Value.slice (some ⟨fg,0,none⟩) 1 fc).ownBlock=some q) w2 w3:=HM3.out.mono fun i _ g=>.inl g
 have m4:=m3.trans HM4.out fun i _ g=>.inl (.inr (.inr (by rw[g];rfl)))
 have m5:=m4.trans HM5.out fun i _ g=>.inl (.inr (.inl g))
 have m6:=m5.trans HM6.out fun i _ g=>.inl (.inr (.inl g))
 exact⟨rfl,_,_,HW6.out,(Mod.of_below HB.out _).trans m6 fun i _ g=>.inl g⟩
theorem flying1{w:World}{base wb rb:Nat}{s c l:Int}{M:List (Option Nat)}{mv sv fv:Value}{t:Flt}(h:Wp w base wb s c l mv sv rb fv M [t]):
  Calls Tryz.prog 12 #[.pointer (some ⟨wb,0,none⟩)] w fun r w'=>∃g' cap',r=.returned (.slice (some ⟨g',0,none⟩) 1 cap')∧w'.ownsRow w.heap.size 93 3 (.slice (some ⟨g',0,none⟩) 1 cap') 1 (flC [t])∧Below w.heap.size w w':=by
 obtain⟨c0,c1,c2,c3,c4,c5,c6,_⟩:=h.wr.cells;obtain⟨fg,fc,rfl⟩:∃fg fc,fv=.slice (some ⟨fg,0,none⟩) 1 fc:=by
  rcases h.fl.2 with⟨e1,e2⟩|⟨fg,cap,cur,rfl,_⟩
  ·simp at e2
  ·exact⟨fg,cap,rfl⟩
 have HC:=Lh (Cl.clone_flt h.fl (by simp) (by simp));clear h;go_enter func12,ntmps12;go_wp2_with fail;refine HC.out.mono ?_;rintro r w1 ⟨g',cap',rfl,hr,hb⟩;have HE:=Lh (And.intro hr hb);clear hr hb;go_wp2;go_ret;exact⟨_,_,rfl,HE.out.1,HE.out.2⟩
structure RunP(w:World)(base b0 wb:Nat)(mv sv:Value)(rb:Nat)(fv:Value)(x0 x1:Nat)(S:Nat→Slt)(tv:Value)(a:KAt)(e:EAt)(E0:En)(r:Ending)(w':World):Prop where
 rr:r=.returned (.tuple #[.int .i64 6,.int .i64 0])
 ww:∃fv',Wp w' base wb 2 0 1 mv sv rb fv' [some x0,some x1] [⟨0,1,f38 7 9⟩]
 x:∃tv',Ex w' x0 a.kb S tv'∧ERow w' b0 tv' [⟨2,1,f38 7 9,0⟩,⟨2,1,f38 7 8,0⟩]
 m:Mod (fun q=>(a.wf q∨e.foot E0.A q∨q=x0∨tv.ownBlock=some q)∨Wo.foot wb rb mv sv fv q) w w'
theorem run1{w:World}{base b0 wb rb k x0 x1:Nat}{mv sv fv:Value}{f:Int→Option Int}(h:Wo w base wb 0 0 0 mv sv rb fv [some x0,some x1] [0,0] f k []){S:Nat→Slt}{tv:Value}{a:KAt}{e:EAt}{E0:En}(hx:Xe w b0 x0 S tv [] a k38a e E0)(hL:En.Like E0 en38)(hs:(S 1).is=true)(hv:(S 1).env=some e.eb)(hn:E0.num=1)
  (hf:∀q,Wo.foot wb rb mv sv fv q→a.tag q=0∧¬e.foot E0.A q∧q≠x0∧tv.ownBlock≠some q) (hp:f 9=some 1) (hq:f 8=none):
  Calls Tryz.prog 7 #[.pointer (some ⟨wb,0,none⟩),.int .i64 0,.int .i64 1,.int .i64 6] w (RunP w base b0 wb mv sv rb fv x0 x1 S tv a e E0):=by
 have HFin:=Lh fun V fv' tv' (h1:Wp V base wb 2 0 1 mv sv rb fv' [some x0,some x1] [⟨0,1,f38 7 9⟩]) (h2:Ex V x0 a.kb S tv'∧ERow V b0 tv' [⟨2,1,f38 7 9,0⟩,⟨2,1,f38 7 8,0⟩]) (h3:Mod (fun q=>(a.wf q∨e.foot E0.A q∨q=x0∨tv.ownBlock=some q)∨Wo.foot wb rb mv sv fv q) w V)=>(show RunP w base b0 wb mv sv rb fv x0 x1 S tv a e E0 (.returned (.tuple #[.int .i64 6,.int .i64 0])) V from⟨rfl,⟨fv',h1⟩,⟨tv',h2⟩,h3⟩)
 generalize RunP w base b0 wb mv sv rb fv x0 x1 S tv a e E0=PQ at*;obtain⟨c0,c1,c2,c3,c4,c5,c6,_⟩:=h.wr.cells;obtain⟨mo,mc,hmv,hma⟩:=Cl.Ptrs.of_own h.m;obtain⟨mg,rfl,hml,hm0⟩:=hma [] (some x0) [some x1] rfl;have hmv:mv=.slice (some ⟨mg,0,none⟩) 2 mc:=hmv;subst hmv;have hm0:w.cell? ⟨mg,0,none⟩=some (.pointer (some ⟨x0,0,none⟩)):=hm0;have HH:=Lh (show Calls Tryz.prog 34 #[.pointer (some ⟨wb,0,none⟩),.int .i64 0] w fun r w'=>r=.returned (.int .i64 0)∧w=w' from h.wr.has 0 (by omega) (by omega));have hrn:=Ex.runG hx 1 (by omega) (by omega) hs hv hn 6 (by omega) (by simp) (by decide);have hrn2:=hrn.mono fun r w' (q:RunG w b0 x0 S tv [] a k38a e E0 6 r w')=>(show r=.returned (.tuple #[.int .i64 6,.int .i64 0])∧(∃tv',Wo w' base wb 0 0 0 (.slice (some ⟨mg,0,none⟩) 2 mc) sv rb fv [some x0,some x1] [0,0] f k []∧Ex w' x0 a.kb S tv'∧ERow w' b0 tv' [⟨2,1,f38 7 9,0⟩,⟨2,1,f38 7 8,0⟩]∧(∀q,Wo.foot wb rb (.slice (some ⟨mg,0,none⟩) 2 mc) sv fv q→q≠x0∧tv'.ownBlock≠some q))∧Mod (fun q=>a.wf q∨e.foot E0.A q∨q=x0∨tv.ownBlock=some q) w w' from by
  obtain⟨m,tv',T',a',K',e',E',rfl,hx',hst,hr⟩:=q;obtain⟨rfl,rfl⟩:=run38 hL hr;have hw':=h.mod hst.mod fun q hq z=>by
   obtain⟨y1,y2,y3,y4⟩:=hf q hq;rcases z with z|z|z|z
   ·exact z.1 y1
   ·exact y2 z
   ·exact y3 z
   ·exact y4 z
  refine⟨rfl,⟨tv',hw',hst.kb▸hx'.x,hx'.t,fun q hq=> ?_⟩,hst.mod⟩;obtain⟨y1,y2,y3,y4⟩:=hf q hq;exact⟨y3,(hst.out (h.bd hq).2 y1 y2 y3 y4).2.2.2⟩)
 have HR:=Lh hrn2;have HPq:=Lh (And.intro hp hq);clear h hx hL hs hv hn hf hp hq hma hml hrn hrn2;go_enter func7,ntmps7;go_wp2_with fail;refine HH.out.mono ?_;rintro r w1 ⟨rfl,rfl⟩;go_wp2_with fail;refine HR.out.mono ?_;rintro r w1 ⟨rfl,⟨tv',hw1,hx1,ht1,hf1⟩,hm1⟩;have pt:=pt38;simp only[Prod.mk.injEq] at pt;obtain⟨p1,p2,p3,p4⟩:=pt;have HG:=Lh (Wr.gather hw1 (t1:=f38 7 9) (t2:=f38 7 8) (fun V hV=>Ex.trace (hx1.below hV) (ownsRow_keep ht1 fun g hg=>hV.block g (Pr.row_lt ht1 hg).2) (by decide)) (p1:=9) (p2:=8) ⟨p1,p2,HPq.out.1,by omega,by omega⟩ ⟨p3,p4,HPq.out.2,by omega,by omega⟩ (by decide) (by decide));have HX1:=Lh hx1;have HT1:=Lh ht1;have HF1:=Lh hf1;have HM1:=Lh hm1;have HW1:=Lh hw1;clear hw1 hx1 ht1 hf1 hm1 p1 p2 p3 p4 c0 c1 c2 c3 c4 c5 c6 hm0 HR HH;go_wp2_with fail;refine HG.out.mono ?_;rintro r w2 ⟨rfl,fv',hwp,hm2⟩;have HE:=Lh (HFin.out w2 fv' tv' hwp ⟨HX1.out.mod hm2 fun q=>(HF1.out _ q).1 rfl,ownsRow_keep HT1.out fun g hg=>hm2.block g (Pr.row_lt HT1.out hg).2 fun q=>(HF1.out _ q).2 hg⟩ ((HM1.out.mono fun i _ g=>.inl g).trans hm2 fun i _ g=>.inl (.inr g)));clear hwp hm2;go_wp2;exact HE.out
end Wr
end Go.Proofs.YtnpicaigdfnmfaaGreat
namespace Go.Proofs.YtnpicaigdfnmfaaGreat.Wr
open Go.RowKit Pag
theorem pgs38(P C cap:Nat):(st38 P C cap).pgs=Cp.madeA perm38 3 256 (strOfNums (Cp.textL code38 6)) 512 text38:=rfl
theorem pgs38_len(P C cap:Nat):(st38 P C cap).pgs.length=2:=by
 rw[pgs38]
 kernel_rfl
theorem like38{P C cap:Nat}{A:List Pg}(h:cores A=cores (st38 P C cap).pgs):En.Like (En.new 1 256 A) en38:=by
 have h2:cores A=cores en38.A:=by
  rw[h,pgs38];unfold en38 En.new
  dsimp only
 unfold en38 En.new at h2⊢;generalize Cp.madeA perm38 3 256 (strOfNums (Cp.textL code38 6)) 512 text38=B at*;exact⟨rfl,rfl,rfl,rfl,rfl,rfl,h2,rfl,rfl⟩
theorem new_nil(w:World):Calls Tryz.prog 47 #[.slice none 0 0] w fun r w'=>r=.returned (.tuple #[.pointer none,.int .i64 2])∧Below w.heap.size w w':=by
 have HC0:=Lh fun V=>Cl.contains (Cl.Ptrs.nil V) none (by simp) (fun b hb=>by simp at hb)
 obtain⟨hw0,hb0⟩:=Wo.new w;obtain⟨w1,hw1⟩:∃y,(w.alloc (.map #[] 0)).alloc (.cells #[.int .i64 0,.int .i64 0,.int .i64 0,.slice none 0 0,.slice none 0 0,.map (some w.heap.size),.slice none 0 0] 84)=y:=⟨_,rfl⟩;rw[hw1] at hb0;have HB:=Lh hb0;have HWw:=Lh hw1;clear hw0 hb0 hw1;unfold Cl.ptr at HC0;have hmm:= @run_makeMap Tryz.prog;go_enter func47,ntmps47;go_wp2_with fail;rw[HWw.out];refine(HC0.out w1).mono ?_;rintro r w2 ⟨rfl,rfl⟩;simp only[List.not_mem_nil,decide_false];go_wp2
 first|exact⟨rfl,HB.out⟩|(go_ret2;exact⟨rfl,HB.out⟩)
theorem new_none{w:World}{v:Value}{L:List (Option Nat)}(hp:Cl.Ptrs w v L)(h8:L.length≤8)(hn:none∈L)(hE:∀b,some b∈L→∃c t,w.heap[b]? =some (.cells c t (0,0))):Calls Tryz.prog 47 #[v] w fun r w'=>r=.returned (.tuple #[.pointer none,.int .i64 1])∧Below w.heap.size w w':=by
 have HC0:=Lh fun V (hV:Below w.heap.size w V)=>Cl.contains (hp.below hV) none (by omega) (fun b hb=>by
  rcases List.mem_cons.1 hb with hb|hb
  ·cases hb
  ·obtain⟨c,t,h⟩:=hE b hb;exact⟨c,t,(hV.block b (lQ h)).trans h⟩)
 have hno:decide (none∈L)=true:=decide_eq_true hn;rw[hno] at HC0;obtain⟨o,cc,rfl,hat⟩:=hp;obtain⟨hw0,hb0⟩:=Wo.new w;obtain⟨w1,hw1⟩:∃y,(w.alloc (.map #[] 0)).alloc (.cells #[.int .i64 0,.int .i64 0,.int .i64 0,.slice none 0 0,.slice none 0 0,.map (some w.heap.size),.slice none 0 0] 84)=y:=⟨_,rfl⟩;rw[hw1] at hb0;have HB:=Lh hb0;have HWw:=Lh hw1;clear hw0 hb0 hw1 hat hno hE hn;unfold Cl.ptr at HC0;have hmm:= @run_makeMap Tryz.prog;go_enter func47,ntmps47;go_wp2_with fail;rw[HWw.out];refine(HC0.out w1 HB.out).mono ?_;rintro r w2 ⟨rfl,rfl⟩;go_wp2
 first|exact⟨rfl,HB.out⟩|(go_ret2;exact⟨rfl,HB.out⟩)
def near(x1 lg:Nat)(a1:KAt)(q:Nat):Prop:=q=x1∨a1.tag q≠0∨q=lg
structure Far(w:World)(x0 x1 lg lc:Nat)(a1:KAt):Prop where
 x:Ex w x1 a1.kb Ex.S0 (.slice none 0 0)
 k:Knl w a1 k38
 l:Cl.Ptrs w (.slice (some ⟨lg,0,none⟩) 2 lc) [some x0,some x1]
theorem Far.mod{F:Nat→Prop}{w w':World}{x0 x1 lg lc:Nat}{a1:KAt}(h:Far w x0 x1 lg lc a1)(hm:Mod F w w')(hF:∀q,near x1 lg a1 q→¬F q):Far w' x0 x1 lg lc a1:=
 ⟨h.x.mod hm (hF _ (.inl rfl)),h.k.keep hm fun q hq=>hF q (.inr (.inl hq)),h.l.mod hm fun g hg=>by cases hg;exact hF _ (.inr (.inr rfl))⟩
theorem Far.below{w w':World}{x0 x1 lg lc:Nat}{a1:KAt}(h:Far w x0 x1 lg lc a1)(hb:Below w.heap.size w w'):Far w' x0 x1 lg lc a1:=h.mod (Mod.of_below hb fun _=>False) fun _ _=>id
theorem Far.at0{w:World}{x0 x1 lg lc:Nat}{a1:KAt}(h:Far w x0 x1 lg lc a1):w.cell? ⟨lg,0,none⟩=some (.pointer (some ⟨x0,0,none⟩)):=by
 obtain⟨o,cc,e,ha⟩:=h.l;obtain⟨g,e1,_,h0⟩:=ha [] (some x0) [some x1] rfl;rw[e1] at e;cases e;exact h0
theorem alive_a{w wm w1:World}{vr:Value}{vl:Value}{D:List Nat}{x0 x1:Nat}{a0 a1:KAt}(hM:Macs w wm vl vr [(x0,a0),(x1,a1)] D)(hb:Below wm.heap.size wm w1):
  ∃lg lc,vl=.slice (some ⟨lg,0,none⟩) 2 lc∧Far w1 x0 x1 lg lc a1∧(∀q,near x1 lg a1 q→q<wm.heap.size∧q≠x0∧a0.tag q=0)∧Ex w1 x0 a0.kb Ex.S0 (.slice none 0 0)∧Knl w1 a0 k38∧a0.tag x0=0∧(∀q,q=x0∨a0.tag q≠0→q<wm.heap.size)∧a1.tag lg=0∧a1.tag x0=0∧(∀q,q=x0∨a0.tag q≠0∨a1.tag q≠0→w.heap.size≤q)∧w.heap.size≤wm.heap.size∧Below w.heap.size w w1:=by
 have h0:=hM.m (x0,a0) (by simp);have h1:=hM.m (x1,a1) (by simp);obtain⟨p1,p2,p3,p4⟩:=(List.pairwise_cons.1 hM.p).1 (x1,a1) (by simp);have g0:=(hM.below hb).m (x0,a0) (by simp);have g1:=(hM.below hb).m (x1,a1) (by simp);have hp:=Cl.Ptrs.of_own (hM.below hb).l;obtain⟨lo,lc,hv,ha⟩:=hp;obtain⟨lg,rfl,_,_⟩:=ha [] (some x0) [some x1] rfl;have hv:vl=.slice (some ⟨lg,0,none⟩) 2 lc:=hv;subst hv;have hl:=(Pr.row_lt hM.l rfl).2;have ho:=(hM.ol lg rfl).2.1;refine⟨lg,lc,rfl,⟨g1.x,g1.k,_,_,rfl,ha⟩,fun q hq=> ?_,g0.x,g0.k,h0.t,fun q hq=>h0.lt hq,(ho (x1,a1) (by simp)).2,p3,fun q hq=> ?_,hM.b.size,hM.b.trans (hb.mono hM.b.size)⟩
 rotate_left
 ·rcases hq with rfl|hq|hq
  ·exact h0.g
  ·exact h0.f q hq
  ·exact h1.f q hq
 rcases hq with rfl|hq|rfl
 ·exact⟨h1.lt (.inl rfl),fun e=>p4 e.symm,p2⟩
 ·exact⟨h1.lt (.inr hq),fun e=>hq (e▸p3),Decidable.byContradiction fun z=>hq (p1 q z)⟩
 ·exact⟨hl,(ho (x0,a0) (by simp)).1,(ho (x0,a0) (by simp)).2⟩
end Go.Proofs.YtnpicaigdfnmfaaGreat.Wr
namespace Go.Proofs.YtnpicaigdfnmfaaGreat.Wr
open Go.RowKit Pag
theorem m38_at{w:World}{g:Nat}(h:w.heap[g]? =some (.cells #[.int .u16 7] 22 (0,0))):MnAt w (.slice none 0 0) (.slice (some ⟨g,0,none⟩) 1 1) m38:=
 ⟨SlV.nil _ _ _,⟨rfl,.inr ⟨g,0,1,_,rfl,h,by decide,by decide,by decide,fun j hj=>by
  match j,hj with
  |0,_=>rfl⟩⟩⟩
theorem m38_ok:m38.ok:=⟨by decide,by decide,fun x hx=>(nomatch hx),fun x hx=>by simp only[m38,List.mem_singleton] at hx;omega⟩
theorem wo_setR{w w':World}{base wb rb k k':Nat}{s c l:Int}{mv sv fv:Value}{M:List (Option Nat)}{N:List Int}{f f':Int→Option Int}{L:List Flt}(h:Wo w base wb s c l mv sv rb fv M N f k L)(hm:Mod (fun q=>q=rb) w w')(hr:Rt w' rb f' k'):Wo w' base wb s c l mv sv rb fv M N f' k' L:=
 { h with wr:=h.wr.mod hm h.ne,m:=ownsRow_keep h.m fun g hg=>hm.block g (Pr.row_lt h.m hg).2 (h.o1 g hg).2.1,n:=ownsRow_keep h.n fun g hg=>hm.block g (Pr.row_lt h.n hg).2 (h.o2 g hg).2.1,r:=hr,fl:=ownsRow_keep h.fl fun g hg=>hm.block g (Pr.row_lt h.fl hg).2 (h.o3 g hg).2 }
theorem two{w:World}{g:Nat}{a b:Option Nat}(h:w.heap[g]? =some (.cells #[Cl.ptr a,Cl.ptr b] 32 (0,0))):Cl.Ptrs w (.slice (some ⟨g,0,none⟩) 2 2) [a,b]:=
 ⟨_,2,rfl,fun T x U e=>⟨g,rfl,lQ h,by
  unfold World.cell?;rw[h]
  match T,e with
  | [],e=>cases e;rfl
  | [c],e=>cases e;rfl
  |c::d::T,e=>cases T<;>simp at e⟩⟩
theorem row_ne{w:World}{b1 b2 s1 s2 n1 n2:Nat}{e1 e2:TypeId}{v1 v2:Value}{l1 l2:List Value}(h1:w.ownsRow b1 e1 s1 v1 n1 l1)(h2:w.ownsRow b2 e2 s2 v2 n2 l2)(he:e1≠e2)(g:Nat)(hg:v1.ownBlock=some g):v2.ownBlock≠some g:=fun hq=>by
 rcases h1.2 with⟨rfl,_⟩|⟨g1,c1,cur1,rfl,_,k1,_⟩
 ·cases hg
 ·rcases h2.2 with⟨rfl,_⟩|⟨g2,c2,cur2,rfl,_,k2,_⟩
  ·cases hq
  ·cases hg;cases hq;rw[k1] at k2;cases k2;exact he rfl
theorem row_blk{w:World}{b1 s1 n1 q:Nat}{e1 t:TypeId}{v1:Value}{l1:List Value}{c:Array Value}(h1:w.ownsRow b1 e1 s1 v1 n1 l1)(hb:w.heap[q]? =some (.cells c t (0,0)))(he:e1≠t):v1.ownBlock≠some q:=fun hq=>by
 rcases h1.2 with⟨rfl,_⟩|⟨g1,c1,cur1,rfl,_,k1,_⟩
 ·cases hq
 ·cases hq;rw[k1] at hb;cases hb;exact he rfl
theorem ptr0{w:World}{x0 x1 lg lc:Nat}(h:Cl.Ptrs w (.slice (some ⟨lg,0,none⟩) 2 lc) [some x0,some x1]):w.cell? ⟨lg,0,none⟩=some (.pointer (some ⟨x0,0,none⟩)):=by
 obtain⟨o,cc,e,ha⟩:=h;obtain⟨g,e1,_,h0⟩:=ha [] (some x0) [some x1] rfl;rw[e1] at e;cases e;exact h0
theorem row1{w:World}{base g cap:Nat}{t:Flt}(h:w.ownsRow base 93 3 (.slice (some ⟨g,0,none⟩) 1 cap) 1 (flC [t]))(j:Nat)(hj:j<3):w.cell? ⟨g,j,none⟩=t.cells[j]? :=by
 rcases h.2 with⟨e,_⟩|⟨g1,cap1,cur,e,_,hb,r1,r2,r3,r4⟩
 ·cases e
 ·cases e;have h2:(cur.toList.take 3)[j]? =t.cells[j]? :=by
   have e:cur.toList.take 3=t.cells:=by simpa [flC] using r4
   rw[e]
  rw[List.getElem?_take_of_lt hj] at h2;unfold World.cell?;rw[hb]
  simpa using h2
def S1:Nat→Slt:=Ex.upd Ex.S0 1 ⟨true,2,none⟩
theorem admit38{w:World}{x0:Nat}{a0:KAt}(hx:Ex w x0 a0.kb Ex.S0 (.slice none 0 0))(hk:Knl w a0 k38)(ht:a0.tag x0=0){pv:Value}(hm:MnAt w (.slice none 0 0) pv m38):
  Calls Tryz.prog 45 #[.pointer (some ⟨x0,0,none⟩),.agg (m38.cells (.slice none 0 0) pv),.int .i64 2] w fun r w'=>r=.returned (.tuple #[.int .i64 1,.int .i64 0])∧∃a',Ex w' x0 a'.kb S1 (.slice none 0 0)∧Knl w' a' k38a∧a'.tag x0=0∧(∀q,q<w.heap.size→a'.tag q=a0.tag q)∧Mod (fun q=>a0.wf q∨q=x0) w w':=by
 have hg:=g38;simp only[Prod.mk.injEq] at hg;refine(Ex.admitG hx hk (by decide) (by decide) hm m38_ok (by omega) (by omega) (n:=1) (by omega) (by omega) (fun i h1 h2=>by omega) rfl ht).mono ?_;rintro r w' (⟨hn,_⟩|⟨_,rfl,a',v,hs,hm',hx',hk',ht'⟩)
 ·exact absurd hg.2 hn
 ·exact⟨rfl,a',hx',hk',ht',hs.tag,(hs.mod.mono fun i _ g=>.inl g).trans hm' fun i _ g=>.inl (.inr g)⟩
theorem alive(w:World):Calls Tryz.prog 16 #[] w fun r w'=>r=.returned (.bool true)∧Below w.heap.size w w':=by
 have HFin:=Lh fun V (h:Below w.heap.size w V)=>(show(fun(r:Ending) (w':World)=>r=.returned (.bool true)∧Below w.heap.size w w') (.returned (.bool true)) V from⟨rfl,h⟩)
 generalize (fun(r:Ending) (w':World)=>r=.returned (.bool true)∧Below w.heap.size w w')=PQ at*;have HMd:=Lh (made w);have HSe:=Lh sender;have HFrm:=Lh frame;go_enter func16,ntmps16;go_wp2_with fail;refine HMd.out.mono ?_;rintro r w1 ⟨⟨x0,a0⟩,⟨x1,a1⟩,wm,vl,vr,D,wb,mv,sv,rb,bd,rfl,hM,hbm,hwo⟩;obtain⟨lg,lc,rfl,hf1,hnear,hx0,hk0,ht0,hl0,htl,htx,hnw,hnw2,hbl1⟩:=alive_a hM hbm;have hwo:Wo w1 wm.heap.size wb 0 0 0 mv sv rb (.slice none 0 0) [some x0,some x1] [0,0] (fun _=>none) 0 []:=hwo;obtain⟨bs,hbs⟩:∃y,wm.heap.size=y:=⟨_,rfl⟩;have hbz:=hbm.size;rw[hbs] at hnear hl0 hwo hbz hnw2;have HNw:=Lh (And.intro hnw hnw2);have HT1:=Lh hbl1;have HF1:=Lh hf1;have HNear:=Lh hnear;have HX1:Hid (Ex w1 x0 a0.kb Ex.S0 (.slice none 0 0)∧Knl w1 a0 k38∧a0.tag x0=0):=Lh ⟨hx0,hk0,ht0⟩;have HL0:=Lh hl0;have HTg:=Lh (And.intro htl htx);have HW1:=Lh hwo;have HBz:=Lh hbz;clear hM hbm hf1 hnear hx0 hk0 ht0 hl0 htl htx hnw hnw2 hbl1 hwo hbs hbz HMd;go_wp2_with fail;refine(HSe.out w1).mono ?_;rintro r w2 ⟨P,C,cap,rfl,hst,hb2⟩;have HSt:=Lh hst;have HB2:=Lh hb2;clear hst hb2;go_wp2_with fail;refine(Cp.made w2 (st38 P C cap) (HSt.out w2 Br)).mono ?_;rintro r w3 ⟨cb,sp,mb,A,db,rp,lvv,R,rfl,hdu,he,hpg⟩;have hal:A.length=(st38 P C cap).pgs.length:=cores_len hpg;have HDu:=Lh hdu;have HPg:=Lh hpg;have HAl:=Lh hal;have hb3:=bQ HB2.out hdu.bel;have HB3:=Lh hb3;have c0:=(HF1.out.below hb3).at0;clear hdu he hpg hal hb3;go_wp2_with fail;have hA4:=(Below.refl w3.heap.size w3).alloc (Nat.le_refl _) (.cells #[.int .u16 7] 22);have hN4:=heap_alloc_new w3 (.cells #[.int .u16 7] 22);obtain⟨w4,hw4⟩:∃y,w3.alloc (.cells #[.int .u16 7] 22)=y:=⟨_,rfl⟩;rw[hw4] at hA4 hN4;rw[hw4];have hb14:=bQ HB3.out hA4;have HAd:=Lh (admit38 (HX1.out.1.below hb14) (HX1.out.2.1.below hb14) HX1.out.2.2 (m38_at hN4));have HF4:=Lh (HF1.out.below hb14);have HT4:=Lh (bQ HT1.out hb14);have HW4:=Lh (HW1.out.below hb14);have HSp4:=Lh (HDu.out.below hA4).pair.sp;have HZ:Hid (bs≤w2.heap.size∧bs≤w4.heap.size):=Lh ⟨Nat.le_trans HBz.out HB2.out.size,Nat.le_trans HBz.out hb14.size⟩;clear hA4 hN4 hw4 hb14 c0 HF1 HW1 HX1 HB3 HB2 HT1;refine HAd.out.mono ?_;rintro r w5 ⟨rfl,a',hx5,hk5,ht5,htg5,hm5⟩;have hlow:∀q,a0.wf q∨q=x0→q<bs:=fun q hq=>HL0.out q (hq.elim (fun g=>.inr g.1) .inl)
 have hf5:=HF4.out.mod hm5 fun q hq z=>by
  obtain⟨_,y2,y3⟩:=HNear.out q hq;rcases z with z|z
  ·exact z.1 y3
  ·exact y2 z
 have hw5:=HW4.out.mod hm5 fun q hq z=>by have:=hlow q z;have:=(HW4.out.bd hq).1;omega
 have hsp5:=HSp4.out.keep hm5 fun k hk z=>by have:=hlow k z;have:=HDu.out.a0 k hk;have:=HZ.out.1;omega
 have hn5:∀q,near x1 lg a1 q∨Wo.foot wb rb mv sv (.slice none 0 0) q→a'.tag q=0∧q<w5.heap.size:=fun q hq=>by
  rcases hq with hq|hq
  ·have hql:=Nat.lt_of_lt_of_le (HNear.out q hq).1 HZ.out.2;rw[htg5 q hql];exact⟨(HNear.out q hq).2.2,Nat.lt_of_lt_of_le hql hm5.size⟩
  ·obtain⟨y1,y2⟩:=HW4.out.bd hq;rw[htg5 q y2];exact⟨Decidable.byContradiction fun z=>by have:=HL0.out q (.inr z);omega,Nat.lt_of_lt_of_le y2 hm5.size⟩
 have HF5:=Lh hf5;have HT5:=Lh (hm5.below HT4.out HT4.out.size fun i _ g=>HNw.out.1 i (g.elim (fun z=>.inr (.inl z.1)) .inl));have hbig5:∀q,a'.tag q≠0→w.heap.size≤q:=fun q hq=>by
  rcases Nat.lt_or_ge q w4.heap.size with z|z
  ·rw[htg5 q z] at hq;exact HNw.out.1 q (.inr (.inl hq))
  ·exact Nat.le_trans HT4.out.size z
 have HBig:=Lh hbig5;have HW5:=Lh hw5;have HN5:=Lh hn5;have HK5:Hid (Knl w5 a' k38a∧a'.tag x0=0∧x0<bs∧bs≤w5.heap.size):=Lh ⟨hk5,ht5,hlow x0 (.inr rfl),Nat.le_trans HZ.out.2 hm5.size⟩;have HSt5:=Lh (show Calls Tryz.prog 46 #[.pointer (some ⟨x0,0,none⟩),.int .i64 1,.pointer (some ⟨sp,0,none⟩),.int .u32 256] w5 (Ex.StartP w5 x0 a'.kb S1 (.slice none 0 0) 1 256 A) from Ex.start hx5 1 (by omega) (by omega) rfl rfl hsp5 (by rw[HAl.out,pgs38_len];decide) 256 (by omega) (by omega));have hf5c:=HF5.out.at0;clear hlow hf5 hw5 hsp5 hn5 hx5 hk5 ht5 htg5 hm5 hbig5 HAd HF4 HW4 HSp4 HT4;go_wp2_with fail;refine HSt5.out.mono ?_;rintro r w6 ⟨e,Cq,rfl,hx6,hen,hco,hef,hm6⟩;have hen:Env w6 e (En.new 1 256 Cq):=hen;have hlk:=like38 (hco.trans HPg.out);obtain⟨E0,hE0,hEn,hEc⟩:∃E0:En,E0=En.new 1 256 Cq∧E0.num=1∧E0.A=Cq:=⟨_,rfl,rfl,rfl⟩;rw[←hE0] at hen hlk;rw[←hEc] at hef;have hk6:=HK5.out.1.keep hm6 fun q hq z=>by subst z;exact hq HK5.out.2.1
 have hf6:=HF5.out.mod hm6 fun q hq=>(HNear.out q hq).2.1
 have hw6:=HW5.out.mod hm6 fun q hq z=>by have:=(HW5.out.bd hq).1;have:=HK5.out.2.2.1;omega
 have hx6e:Xe w6 w6.heap.size x0 (Ex.upd S1 1 { S1 1 with env:=some e.eb }) (.slice none 0 0) [] a' k38a e E0:=
  { x:=hx6,j:=⟨hk6,hen,fun q hq=>Decidable.byContradiction fun z=>by have:=hef q hq;have:=HK5.out.1.lt q z;omega⟩,num:=by rw[hEn];omega,t:=World.ownsRow_nil _ _ _ _,b0:=Nat.le_refl _,xa:=HK5.out.2.1,xe:=fun z=>by have:=hef _ z;have:=HK5.out.2.2;omega,ta:=fun g hg=>(nomatch hg) }
 obtain⟨mo,mc,hmv⟩:=Pr.row_shape hw6.m;subst hmv;have HRt:=Lh (show Calls Tryz.prog 11 #[.pointer (some ⟨wb,0,none⟩),.int .u16 9,.int .i64 1] w6 fun r w'=>r=.returned (.int .i64 0)∧Rt w' rb (fun z=>if z=9 then some 1 else none) 1∧Mod (fun q=>q=rb) w6 w' from hw6.wr.route hw6.r 9 (by omega) (by omega) 1 (by show 1<2;omega) (by show 2≤1000;omega) rfl (by omega));have HLk:=Lh (And.intro hlk hEn);have HEf:=Lh (And.intro hef hm6.size);have HT6:=Lh (hm6.below HT5.out HT5.out.size fun i _ g=>HNw.out.1 i (.inl g));have HX6:=Lh hx6e;have HF6:=Lh hf6;have HW6:=Lh hw6;clear hx6 hen hco hef hm6 hlk hE0 hEn hEc hk6 hf6 hw6 hx6e HSt5 HF5 HW5 hf5c;go_wp2_with fail;refine HRt.out.mono ?_;rintro r w7 ⟨rfl,hr7,hm7⟩;have hfoot:∀q,Wo.foot wb rb (.slice mo 2 mc) sv (.slice none 0 0) q→bs≤q∧q<w6.heap.size∧a'.tag q=0∧¬e.foot E0.A q∧q≠x0:=fun q hq=>by
  obtain⟨y1,y2⟩:=HW6.out.bd hq;exact⟨y1,y2,(HN5.out q (.inr hq)).1,fun z=>by have:=HEf.out.1 q z;have:=(HN5.out q (.inr hq)).2;omega,fun z=>by have:=HK5.out.2.2.1;omega⟩
 have HFo:=Lh hfoot;have HT7:=Lh (hm7.below HT6.out HT6.out.size fun i _ g=>by have:=(hfoot rb (.inr (.inl rfl))).1;have:=HNw.out.2;omega);have hw7:Wo w7 bs wb 0 0 0 (.slice mo 2 mc) sv rb (.slice none 0 0) [some x0,some x1] [0,0] (fun z=>if z=9 then some 1 else none) 1 []:=wo_setR HW6.out hm7 hr7;have hrb:=hfoot rb (.inr (.inl rfl));have hx7:=HX6.out.keep hm7 fun k hk=>by subst hk;exact⟨hrb.2.2.1,hrb.2.2.2.1,hrb.2.2.2.2,fun z=>(nomatch z)⟩
 have hf7:=HF6.out.mod hm7 fun q hq z=>by have:=(HNear.out q hq).1;have:=hrb.1;omega
 have HRn:=Lh (run1 hw7 hx7 HLk.out.1 rfl rfl HLk.out.2 (fun q hq=>⟨(hfoot q hq).2.2.1,(hfoot q hq).2.2.2.1,(hfoot q hq).2.2.2.2,fun z=>(nomatch z)⟩) rfl rfl);have HF7:=Lh hf7;clear hr7 hm7 hfoot hw7 hrb hx7 hf7 HRt HX6 HF6 HW6;go_wp2_with fail;refine HRn.out.mono ?_;rintro r w8 ⟨hrr,⟨fv,hwp⟩,⟨tv,hx8,ht8⟩,hm8⟩;subst hrr;have hf8:=HF7.out.mod hm8 fun q hq z=>by
  have y:=HNear.out q hq;have y2:=HN5.out q (.inl hq);rcases z with(z|z|z|z)|z
  ·exact z.1 y2.1
  ·have:=HEf.out.1 q z;omega
  ·exact y.2.1 z
  ·cases z
  ·have:=(HFo.out q z).1;omega
 have HF8:=Lh hf8;have HT8:=Lh (hm8.below HT7.out HT7.out.size fun i _ z=>by
  rcases z with(z|z|z|z)|z
  ·exact HBig.out i z.1
  ·have:=HEf.out.1 i z;have:=HT5.out.size;omega
  ·exact HNw.out.1 i (.inl z)
  ·cases z
  ·have:=(HFo.out i z).1;have:=HNw.out.2;omega)
 have HWp:=Lh hwp;have HX8:=Lh (And.intro hx8 ht8);have HBw:Hid (bs≤w6.heap.size):=Lh (Nat.le_trans HK5.out.2.2.2 HEf.out.2);clear hf8 hwp hx8 ht8 hm8 HRn HF7 HFo HN5;go_wp2_with fail;refine HWp.out.wr.counts.mono ?_;rintro r w9 ⟨rfl,hb9⟩;have hwp9:=HWp.out.below hb9;have HW9:=Lh hwp9;have HB9:=Lh hb9;have HFl:=Lh (flying1 hwp9);clear hb9 hwp9;go_wp2_with fail;refine HFl.out.mono ?_;rintro r w10 ⟨lb,lcap,rfl,hrow,hb10⟩;have hb810:=bQ HB9.out hb10;have hwp10:=HW9.out.below hb10;have HT10:=Lh (bQ HT8.out hb810);have hf10:=HF8.out.below hb810;have hx10:=HX8.out.1.below hb810;have ht10:ERow w10 w6.heap.size tv [⟨2,1,f38 7 9,0⟩,⟨2,1,f38 7 8,0⟩]:=ownsRow_keep HX8.out.2 fun g hg=>hb810.block g (Pr.row_lt HX8.out.2 hg).2
 have hfar:∀q,q=wb∨(Value.slice mo 2 mc).ownBlock=some q∨fv.ownBlock=some q→bs≤q∧q<w9.heap.size:=fun q hq=>by
  rcases hq with rfl|hq|hq
  ·exact⟨hwp10.b0,lQ HW9.out.wr.blk⟩
  ·exact Pr.row_lt HW9.out.m hq
  ·exact Pr.row_lt HW9.out.fl hq
 have htag1:∀q,bs≤q→a1.tag q=0:=fun q hq=>Decidable.byContradiction fun z=>by have:=(HNear.out q (.inr (.inl z))).1;omega
 have hcm:=come1 hwp10 hf10.x hf10.k (fun q hq=>htag1 q (hfar q hq).1) (by decide) (by decide);have HCm:=Lh hcm;have HRow:=Lh hrow;have HF10:=Lh hf10;have HX10:Hid (Ex w10 x0 a'.kb (Ex.upd S1 1 { S1 1 with env:=some e.eb }) tv∧ERow w10 w6.heap.size tv [⟨2,1,f38 7 9,0⟩,⟨2,1,f38 7 8,0⟩]):=Lh ⟨hx10,ht10⟩;have HWp10:=Lh hwp10;have HFar:=Lh hfar;have HTa:=Lh htag1;clear hrow hb10 hb810 hwp10 hf10 hx10 ht10 hfar htag1 hcm HFl HX8 HF8 HWp;go_wp2_with fail;refine HCm.out.mono ?_;rintro r w11 ⟨rfl,fo,fc,hwr,hm11⟩;have hx0b:=HK5.out.2.2.1;have hp11:=HF10.out.l.mod hm11 fun g hg z=>by
  cases hg;have y:=(HNear.out lg (.inr (.inr rfl))).1;rcases z with z|z|z
  ·exact z.1 HTg.out.1
  ·have:=(HFar.out lg (.inl z)).1;omega
  ·have:=(HFar.out lg (.inr (.inr z))).1;omega
 have hx11:=HX10.out.1.mod hm11 fun z=>by
  rcases z with z|z|z
  ·exact z.1 HTg.out.2
  ·have:=(HFar.out x0 (.inl z)).1;omega
  ·have:=(HFar.out x0 (.inr (.inr z))).1;omega
 have ht11:ERow w11 w6.heap.size tv [⟨2,1,f38 7 9,0⟩,⟨2,1,f38 7 8,0⟩]:=ownsRow_keep HX10.out.2 fun g hg=>hm11.block g (Pr.row_lt HX10.out.2 hg).2 fun z=>by
  rcases z with z|z|z
  ·exact z.1 (HTa.out g (Nat.le_trans HBw.out (Pr.row_lt HX10.out.2 hg).1))
  ·exact row_blk HX10.out.2 HWp10.out.wr.blk (by decide) (z▸hg)
  ·exact row_ne HX10.out.2 HWp10.out.fl (by decide) g hg z
 have hr11:=ownsRow_keep HRow.out fun g hg=>hm11.block g (Pr.row_lt HRow.out hg).2 fun z=>by
  have y:=(Pr.row_lt HRow.out hg).1;rcases z with z|z|z
  ·have:=HF10.out.k.lt g z.1;exact z.1 (HTa.out g (by have:=(HFar.out wb (.inl rfl));omega))
  ·have:=(HFar.out g (.inl z)).2;omega
  ·have:=(HFar.out g (.inr (.inr z))).2;omega
 have HP11:=Lh hp11;have HT11:=Lh (hm11.below HT10.out HT10.out.size fun i _ z=>by
  rcases z with z|z|z
  ·exact HNw.out.1 i (.inr (.inr z.1))
  ·have:=(HFar.out i (.inl z)).1;have:=HNw.out.2;omega
  ·have:=(HFar.out i (.inr (.inr z))).1;have:=HNw.out.2;omega)
 have HX11:=Lh (And.intro hx11 ht11);have HR11:=Lh hr11;have HCn:=Lh hwr.come_none;clear hx0b hp11 hx11 ht11 hr11 hwr hm11 HX10 HRow HF10 HWp10 HCm;go_wp2_with fail;refine HCn.out.mono ?_;rintro r w12 ⟨rfl,rfl⟩;go_wp2_with fail;refine(new_nil w11).mono ?_;rintro r w12 ⟨rfl,hb12⟩;have HP12:=Lh (HP11.out.below hb12);have HX12:Hid (Ex w12 x0 a'.kb (Ex.upd S1 1 { S1 1 with env:=some e.eb }) tv∧ERow w12 w6.heap.size tv [⟨2,1,f38 7 9,0⟩,⟨2,1,f38 7 8,0⟩]):=Lh ⟨HX11.out.1.below hb12,ownsRow_keep HX11.out.2 fun g hg=>hb12.block g (Pr.row_lt HX11.out.2 hg).2⟩;have HR12:=Lh (ownsRow_keep HR11.out fun g hg=>hb12.block g (Pr.row_lt HR11.out hg).2);have q0:=ptr0 HP12.out;have HT12:=Lh (bQ HT11.out hb12);clear hb12 HP11 HX11 HR11 HCn;go_wp2_with fail;have hA13:=(Below.refl w12.heap.size w12).alloc (Nat.le_refl _) (.cells #[.pointer (some ⟨x0,0,none⟩),.pointer none] 32);have hN13:=heap_alloc_new w12 (.cells #[.pointer (some ⟨x0,0,none⟩),.pointer none] 32);obtain⟨w13,hw13⟩:∃y,w12.alloc (.cells #[.pointer (some ⟨x0,0,none⟩),.pointer none] 32)=y:=⟨_,rfl⟩;rw[hw13] at hA13 hN13;rw[hw13];have h13:Cl.Ptrs w13 (.slice (some ⟨w12.heap.size,0,none⟩) 2 2) [some x0,none]:=two hN13;have HNn:=Lh (new_none h13 (by simp) (by simp) (fun b hb=>by simp at hb;subst hb;exact⟨_,_,(HX12.out.1.below hA13).blk⟩));have HA13:=Lh hA13;clear hA13 hN13 hw13 h13 q0;refine HNn.out.mono ?_;rintro r w14 ⟨rfl,hb14⟩;have hb24:=bQ HA13.out hb14;have HP14:=Lh (HP12.out.below hb24);have HT14:=Lh (bQ HT12.out hb24);have HX14:Hid (Ex w14 x0 a'.kb (Ex.upd S1 1 { S1 1 with env:=some e.eb }) tv∧ERow w14 w6.heap.size tv [⟨2,1,f38 7 9,0⟩,⟨2,1,f38 7 8,0⟩]):=Lh ⟨HX12.out.1.below hb24,ownsRow_keep HX12.out.2 fun g hg=>hb24.block g (Pr.row_lt HX12.out.2 hg).2⟩;have HR14:=Lh (ownsRow_keep HR12.out fun g hg=>hb24.block g (Pr.row_lt HR12.out hg).2);clear hb14 hb24 HP12 HX12 HR12 HNn HA13;go_upto_region 14 with(fail);have hS0:w14.cell? ⟨lg,0,none⟩=some (.pointer (some ⟨x0,0,none⟩))∧True:=⟨ptr0 HP14.out,trivial⟩;refine B (fun V=>V.cell? ⟨lg,0,none⟩=some (.pointer (some ⟨x0,0,none⟩))∧True) hS0 fun wd hwd hS=> ?_
 have hbd:Below w14.heap.size w14 wd:=by rw[hwd];exact Br.drew
 have HBd:=Lh hbd;clear hwd hS0 hbd;refine T 0 hS ?_;refine T 1 hS ?_;refine T 2 hS ?_;refine T 3 hS ?_;refine T 4 hS ?_;refine T 5 hS ?_;refine U 6 fun K' hK=> ?_
 go_simp;have hA15:=(Below.refl wd.heap.size wd).alloc (Nat.le_refl _) (.cells #[.pointer (some ⟨x0,0,none⟩),.pointer (some ⟨x0,0,none⟩)] 32);have hN15:=heap_alloc_new wd (.cells #[.pointer (some ⟨x0,0,none⟩),.pointer (some ⟨x0,0,none⟩)] 32);obtain⟨w15,hw15⟩:∃y,wd.alloc (.cells #[.pointer (some ⟨x0,0,none⟩),.pointer (some ⟨x0,0,none⟩)] 32)=y:=⟨_,rfl⟩;rw[hw15] at hA15 hN15;rw[hw15];have hb15:=bQ HBd.out hA15;have hS15:w15.cell? ⟨lg,0,none⟩=some (.pointer (some ⟨x0,0,none⟩))∧True:=⟨ptr0 (HP14.out.below hb15),trivial⟩;have h15:Cl.Ptrs w15 (.slice (some ⟨wd.heap.size,0,none⟩) 2 2) [some x0,some x0]:=two hN15;have HB15:=Lh hb15;have HNw:=Lh (Wr.new (fun _=>[⟨2,1,f38 7 9,0⟩,⟨2,1,f38 7 8,0⟩]) h15 (by simp) (by simp) (fun x hx=>by simp at hx;exact⟨_,hx⟩) (fun b hb=>by simp at hb;subst hb;exact⟨_,_,(HX14.out.1.below hb15).blk⟩) (fun b hb V hV=>by
  simp at hb;subst hb;have hbV:=bQ hb15 hV;exact Ex.trace (HX14.out.1.below hbV) (ownsRow_keep HX14.out.2 fun g hg=>hbV.block g (Pr.row_lt HX14.out.2 hg).2) (by decide)))
 clear hA15 hN15 hw15 hb15 h15 hS;refine V hK hS15 ?_;clear hK K';refine U 7 fun K' hK=> ?_
 go_simp;go_at_call 47;refine HNw.out.mono ?_;rintro r w16 (⟨hn,_⟩|⟨_,rfl,hb16⟩)
 case inl=>exact absurd hn (by simp)
 have hb46:=bQ HB15.out hb16;have hS16:w16.cell? ⟨lg,0,none⟩=some (.pointer (some ⟨x0,0,none⟩))∧True:=⟨ptr0 (HP14.out.below hb46),trivial⟩;have HT16:=Lh (bQ HT14.out hb46);have HR16:=Lh (ownsRow_keep HR14.out fun g hg=>hb46.block g (Pr.row_lt HR14.out hg).2);clear hb16 hb46 HNw;refine V hK hS16 ?_;clear hK K';refine T 8 hS16 ?_;refine T 9 hS16 ?_;refine T 10 hS16 ?_;refine T 11 hS16 ?_;refine T 12 hS16 ?_;refine wpAnyH_done (by kernel_rfl) ?_ _;clear hS16;go_wp2_with fail;refine(HFrm.out 7 9 w16).mono ?_;rintro r w17 ⟨rfl,hb17⟩;rw[fr79];have HT17:=Lh (bQ HT16.out hb17);have HR17:=Lh (ownsRow_keep HR16.out fun g hg=>hb17.block g (Pr.row_lt HR16.out hg).2);clear hb17 HR16;go_wp2_with fail;have hA18:=(Below.refl w17.heap.size w17).alloc (Nat.le_refl _) (.cells #[.int .i64 0,.int .i64 1,.string (f38 7 9)] 93);have hN18:=heap_alloc_new w17 (.cells #[.int .i64 0,.int .i64 1,.string (f38 7 9)] 93);obtain⟨w18,hw18⟩:∃y,w17.alloc (.cells #[.int .i64 0,.int .i64 1,.string (f38 7 9)] 93)=y:=⟨_,rfl⟩;rw[hw18] at hA18 hN18;rw[hw18];have hr18:=ownsRow_keep HR17.out fun g hg=>hA18.block g (Pr.row_lt HR17.out hg).2
 refine(same38 (f:=⟨0,1,f38 7 9⟩) (row1 hr18 0 (by omega)) (row1 hr18 1 (by omega)) (row1 hr18 2 (by omega)) (by unfold World.cell?;rw[hN18];rfl) (by unfold World.cell?;rw[hN18];rfl) (by unfold World.cell?;rw[hN18];rfl)).mono ?_;rintro r w19 ⟨rfl,hb19⟩;have HE:=Lh (HFin.out w19 (bQ HT17.out (bQ hA18 hb19)));clear hA18 hN18 hw18 hr18 hb19 HR17;go_wp2
 first|exact HE.out|(go_ret;exact HE.out)
end Go.Proofs.YtnpicaigdfnmfaaGreat.Wr
namespace Go.Proofs.YtnpicaigdfnmfaaGreat.Wr
open Go.RowKit
theorem wireNil(w:World)(n:Int)(n0: -9223372036854775808≤n)(n1:n≤9223372036854775807)(p:Int)(p0:0≤p)(p1:p≤65535):Calls Tryz.prog 3 #[.int .i64 n,.int .u16 p] w fun r w'=>r=.returned (.bool true)∧Below w.heap.size w w':=by
 clear n0 n1 p0 p1;have HFin:=Lh fun V (h:Below w.heap.size w V)=>(show(fun(r:Ending) (w':World)=>r=.returned (.bool true)∧Below w.heap.size w w') (.returned (.bool true)) V from⟨rfl,h⟩)
 generalize (fun(r:Ending) (w':World)=>r=.returned (.bool true)∧Below w.heap.size w w')=PQ at*;have HA:=Lh alive;go_enter func3,ntmps3;go_wp2_with fail;refine(to_nil w p).mono ?_;rintro r w1 ⟨rfl,rfl⟩;go_wp2_with fail;refine(run_nil w n n n).mono ?_;rintro r w1 ⟨rfl,rfl⟩;go_wp2_with fail;refine(gather_nil w n).mono ?_;rintro r w1 ⟨rfl,rfl⟩;go_wp2_with fail;refine(counts_nil w).mono ?_;rintro r w1 ⟨rfl,rfl⟩;go_wp2_with fail;refine(machine_nil w n).mono ?_;rintro r w1 ⟨rfl,rfl⟩;go_wp2_with fail;refine(route_nil w p n).mono ?_;rintro r w1 ⟨rfl,rfl⟩;go_wp2_with fail;refine(flying_nil w).mono ?_;rintro r w1 ⟨rfl,rfl⟩;go_wp2_with fail;refine(come_nil w n).mono ?_;rintro r w1 ⟨rfl,rfl⟩;go_wp2_with fail;refine(lose_nil w n).mono ?_;rintro r w1 ⟨rfl,rfl⟩;go_wp2_with fail;refine(flush_nil w).mono ?_;rintro r w1 ⟨rfl,rfl⟩;go_wp2_with fail;refine(HA.out w).mono ?_;rintro r w1 ⟨rfl,hb⟩;have HE:=Lh (HFin.out w1 hb);clear hb;go_wp2
 first|exact HE.out|(go_ret;exact HE.out)
end Go.Proofs.YtnpicaigdfnmfaaGreat.Wr
