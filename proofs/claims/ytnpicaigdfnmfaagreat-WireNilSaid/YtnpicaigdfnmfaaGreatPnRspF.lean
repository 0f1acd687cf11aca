/- RspF, Renv, WordRev, WordGet, NicD in one text. -/
import Derived.Test.YtnpicaigdfnmfaaGreatPnPag
import Derived.Test.YtnpicaigdfnmfaaGreatPnSl21
import Derived.Test.YtnpicaigdfnmfaaGreatPnRegT
import Derived.Test.YtnpicaigdfnmfaaGreatProg
import Derived.Test.YtnpicaigdfnmfaaGreatPnBase
import Derived.WalkSpells
import Derived.WalkLawsBesides
import Derived.RegionTactic
import Derived.ChangeAlike
import Derived.BigRegion
import Derived.WalkSmall
import Derived.LoopTactic
import Derived.Outline
import Derived.Deep.RegionHeld3
import Derived.Test.YtnpicaigdfnmfaaGreatPnZa
set_option linter.unusedVariables false
set_option linter.unusedSimpArgs false
set_option maxRecDepth 100000
set_option maxHeartbeats 16000000
open Go.Proofs.Tryz
namespace Go.Proofs.YtnpicaigdfnmfaaGreat
open Go.RowKit
def rcores(R:List Rp):List (Int×Int×List Int):=cores (rpgs R)
theorem rcores_snoc(l:List Rp)(q:Rp):rcores (l++[q])=rcores l++[q.pg.core]:=by
 unfold rcores cores rpgs;rw[List.map_append,List.map_append];rfl
theorem up_of_cores{A B:List Pg}(h:cores A=cores B)(hB:B.Pairwise fun p q=>p.addr<q.addr):A.Pairwise fun p q=>p.addr<q.addr:=by
 have e:A.map (·.addr)=B.map (·.addr):=by
  have:=congrArg (List.map Prod.fst) h;unfold cores at this;rw[List.map_map,List.map_map] at this;exact this
 have h1:(B.map (·.addr)).Pairwise (·<·):=by rw[List.pairwise_map];exact hB
 rw[←e,List.pairwise_map] at h1;exact h1
namespace Rs
theorem cell_at1(W:World)(a:Obj)(x:Value)(t:TypeId):∀j u,[x][j]? =some u→((W.alloc a).alloc (.cells #[x] t)).cell? ((⟨W.heap.size+1,0,none⟩:Addr).add j)=some u:=by
 have:=cell_one_new (W.alloc a) x t
 simpa using this
def ccRel(w:World)(R:List Rp)(cb:Nat)(vi:Value)(wr:World):Prop:=
 ∃(i:Nat) (lvc:Value) (C:List Rp),vi=.int .i64 i∧i≤R.length∧C.length=i∧Rsp wr cb lvc C∧rcores C=rcores (R.take i)∧wr.ownsRow w.heap.size 276 1 lvc i (C.map Rp.ptr)∧(∀k,Rsp.foot cb lvc C k→w.heap.size≤k)∧Below w.heap.size w wr
def RCopyPost(w:World)(R:List Rp)(e:Ending)(w':World):Prop:=
 ∃(cb:Nat) (lvc:Value) (C:List Rp),e=.returned (.pointer (some ⟨cb,0,none⟩))∧Rsp w' cb lvc C∧rcores C=rcores R∧(∀k,Rsp.foot cb lvc C k→w.heap.size≤k)∧Below w.heap.size w w'
theorem copy_step{w wr w1 w3 w4:World}{R:List Rp}{cb i:Nat}{lvc v4:Value}{C:List Rp}{g1 cap1:Nat}{p:Rp}
  (hp:R[i]? =some p) (hpr:RPage wr p) (hsp:Rsp wr cb lvc C) (hCl:C.length=i) (hco:rcores C=rcores (R.take i)) (hown:wr.ownsRow w.heap.size 276 1 lvc i (C.map Rp.ptr)) (hft:∀k,Rsp.foot cb lvc C k→w.heap.size≤k) (hbw:Below w.heap.size w wr)
  (hup:(rpgs R).Pairwise fun p q=>p.addr<q.addr)
  (h1:w1.ownsRow wr.heap.size 5 1 (.slice (some ⟨g1,0,none⟩) 256 cap1) 256 (p.pg.bytes.map (Value.int .u8))) (hb1:Below wr.heap.size wr w1)
  (hb3:Below w1.heap.size w1 w3) (hq:w3.heap[w1.heap.size]? =some (.cells #[.int .u32 p.pg.addr,.int .u8 p.pg.perm,.slice (some ⟨g1,0,none⟩) 256 cap1] 279 (0,0)))
  (h4:w4.ownsRow w.heap.size 276 1 v4 (i+1) (C.map Rp.ptr++[.pointer (some ⟨w1.heap.size,0,none⟩)])) (hg4:w3.grownBy w4 lvc.ownBlock):
  ccRel w R cb (.int .i64 (i+1)) (w4.setCell ⟨cb,0,none⟩ v4):=by
 obtain⟨hi,hpe⟩:=List.getElem?_eq_some_iff.1 hp;obtain⟨hl1,h1r⟩:=h1;rcases h1r with⟨h1r,_⟩|⟨g,c,cur,he,hgb,hgh,hc1,hc2,hcs,hct⟩
 ·cases h1r
 simp only[Value.slice.injEq,Option.some.injEq,Addr.mk.injEq,and_true,true_and] at he;obtain⟨rfl,rfl⟩:=he;have s1:=hb1.size;have s3:=hb3.size;have hg1l:g1<w1.heap.size:=lQ hgh;have s4:=hg4.size;have hlv:∀k,lvc.ownBlock=some k→k<wr.heap.size:=fun k hk=>(hown.lt k hk).2
 have hb13:Below wr.heap.size wr w3:=hb1.trans (hb3.mono s1);have hold:∀k,k<wr.heap.size→lvc.ownBlock≠some k→w4.heap[k]? =wr.heap[k]? :=fun k hk hne=>(hg4.block k (by omega) (by intro e;exact hne e.symm)).trans (hb13.block k hk)
 have hok:=hpr.ok;obtain⟨q,hqd⟩:∃q:Rp,q=⟨⟨p.pg.addr,w1.heap.size,p.pg.perm,p.pg.bytes⟩,g1,cap1⟩:=⟨_,rfl⟩;have hqp:RPage w4 q:=by
  have k1:w4.heap[w1.heap.size]? =w3.heap[w1.heap.size]? :=hg4.block _ (lQ hq) (by intro e;have:=hlv _ e.symm;omega);have k2:w4.heap[g1]? =w1.heap[g1]? :=(hg4.block _ (by omega) (by intro e;have:=hlv _ e.symm;omega)).trans (hb3.block _ hg1l);rw[hqd];refine⟨k1.trans hq,⟨cur,k2.trans hgh,by simpa using hcs,fun j hj=> ?_⟩,hc1,hc2,⟨hok.a0,hok.a1,hok.a2,hok.p0,hok.p1,hok.len,hok.bd⟩⟩;have h5:(cur.toList.take (256*1))[j]? =(p.pg.bytes.map (Value.int .u8))[j]? :=by rw[hct]
  rw[List.getElem?_take_of_lt (by omega),List.getElem?_map] at h5;have hl:=hok.len;have hcl:cur.toList.length=cur.size:=Array.length_toList ..;rw[Zg (by omega)] at h5;rw[Array.getElem?_eq_getElem (by omega)]
  simpa [List.getD,Zg (show j<p.pg.bytes.length by omega)] using h5
 have hold2:∀k,(∃x,x∈C∧(k=x.pg.blk∨k=x.bb))∨k=cb→w4.heap[k]? =wr.heap[k]? :=by
  rintro k (⟨x,hx,hk⟩|rfl)
  ·have hxp:=hsp.pages x hx;obtain⟨cu,hcu,_⟩:=hxp.data;rcases hk with rfl|rfl
   ·exact hold _ hxp.lt1 (own_ne hown hxp.page (by decide))
   ·exact hold _ hxp.lt2 (own_ne hown hcu (by decide))
  ·exact hold _ (lQ hsp.head) (own_ne hown hsp.head (by decide))
 have hcore:rcores (C++[q])=rcores (R.take (i+1)):=by
  rw[rcores_snoc,hco,List.take_succ_eq_append_getElem hi,rcores_snoc,hpe,hqd];rfl
 have hrow4:w4.ownsRow w.heap.size 276 1 v4 (C++[q]).length ((C++[q]).map Rp.ptr):=by
  rw[List.length_append,hCl,List.map_append,hqd];exact h4
 have hsp4:Rsp (w4.setCell ⟨cb,0,none⟩ v4) cb v4 (C++[q]):=by
  have hhead:w4.heap[cb]? =_:=(hold2 cb (.inr rfl)).trans hsp.head;refine⟨?_, ?_, ?_, ?_, ?_⟩
  ·have:=heap_setCell_same w4 cb 0 _ _ v4 hhead
   simpa using this
  ·have hz:w4.ownsRow 0 276 1 v4 (C++[q]).length ((C++[q]).map Rp.ptr):=by
    obtain⟨hl,g⟩:=hrow4;refine⟨hl,g.imp id ?_⟩;rintro⟨b,cap,cur,k1,k2,k3⟩;exact⟨b,cap,cur,k1,Nat.zero_le _,k3⟩
   exact row_keep hz fun k hk=>Below.heap_setCell _ _ _ _ fun e=>own_ne hrow4 hhead (by decide) (by rw[←(show k=cb from e)];exact hk)
  ·intro x hx;have hx4:RPage w4 x:=by
    rcases List.mem_append.1 hx with hx|hx
    ·exact(hsp.pages x hx).keep (hold2 _ (.inl ⟨x,hx,.inl rfl⟩)) (hold2 _ (.inl ⟨x,hx,.inr rfl⟩))
    ·rw[List.mem_singleton.1 hx];exact hqp
   refine hx4.keep (Below.heap_setCell _ _ _ _ fun e=> ?_) (Below.heap_setCell _ _ _ _ fun e=> ?_)
   ·have:=hx4.page;rw[show x.pg.blk=cb from e,hhead] at this;simp at this
   ·obtain⟨cu,this,_⟩:=hx4.data;rw[show x.bb=cb from e,hhead] at this;simp at this
  ·refine up_of_cores (B:=rpgs (R.take (i+1))) hcore ?_;unfold rpgs at hup⊢;rw[List.map_take];exact hup.sublist (List.take_sublist _ _)
  ·refine List.pairwise_append.2 ⟨hsp.bbs,List.pairwise_singleton _ _,fun x hx y hy=> ?_⟩;rw[List.mem_singleton.1 hy,hqd];have:=(hsp.pages x hx).lt2
   show x.bb≠g1
   omega
 have hb4:Below w.heap.size w w4:=own_below (hbw.trans (hb13.mono hbw.size)) (by have:=hbw.size;omega) (row_keep (W:=wr) hown fun k hk=>hb13.block k (hlv k hk)) hg4;refine⟨i+1,v4,C++[q],by simp,by omega,by rw[List.length_append,hCl];rfl,hsp4,hcore, ?_, ?_,hb4.setCell (hft cb (.inl rfl)) _⟩
 ·have hhead:w4.heap[cb]? =_:=(hold2 cb (.inr rfl)).trans hsp.head;have:=hrow4;rw[List.length_append,hCl] at this;exact row_keep this fun k hk=>Below.heap_setCell _ _ _ _ fun e=>own_ne hrow4 hhead (by decide) (by rw[←(show k=cb from e)];exact hk)
 ·rintro k (g|g|⟨x,hx,g⟩)
  ·exact hft k (.inl g)
  ·exact(h4.lt k g).1
  ·rcases List.mem_append.1 hx with hx|hx
   ·exact hft k (.inr (.inr ⟨x,hx,g⟩))
   ·have:=hbw.size;rw[List.mem_singleton.1 hx,hqd] at g;rcases g with g|g
    ·have:k=w1.heap.size:=g;omega
    ·have:k=g1:=g;omega
theorem copy{w:World}{rb:Nat}{lv:Value}{R:List Rp}(h:Rsp w rb lv R):Calls Tryz.prog 256 #[.pointer (some ⟨rb,0,none⟩)] w (RCopyPost w R):=by
 have hln:=h.len;obtain⟨i0,hi0,hz0,hz1,hz2⟩:=info_parts infoPg;have Hi:=Lh hi0;have Hz0:=Lh hz0;have Hz1:=Lh hz1;have Hz2:=Lh hz2;obtain⟨i1,hi0,hz0,hz1,hz2⟩:=info_parts Sp.infoU8;have Ki:=Lh hi0;have Kz0:=Lh hz0;have Kz1:=Lh hz1;have Kz2:=Lh hz2;obtain⟨n,hn⟩:∃n,R.length=n:=⟨_,rfl⟩;have Hn:=Lh hn;rw[hn] at hln;have H:=Lh h;obtain⟨a,cap,hlv,hrow,_⟩:=h.row;have Hrow:=Lh hrow;have hc0:=h.cellHead;rw[hlv,hn] at hc0;have Hlv:=Lh hlv;have Hc0:=Lh hc0;have hrb:rb<w.heap.size:=lQ h.head;clear h hi0 hz0 hz1 hz2 hn hrow hc0 hlv;go_enter func256,ntmps256;go_wp2;go_loopw [4] (fun vi wr=>ccRel w R w.heap.size vi wr) (fun vi _=>n - (intOf vi).toNat)
 case atStart=>exact⟨0,.slice none 0 0,[],by go_num,Nat.zero_le _,rfl,rsp_nil (by simpa using heap_alloc_new w _),rfl,World.ownsRow_nil _ _ _ _,fun k hk=>by rcases hk with rfl|hk|⟨q,hq,_⟩<;>first|exact Nat.le_refl _|cases hk|simp at hq,Ba _⟩
 case round=>
  obtain⟨i,lvc,C,rfl,hi,hCl,hsp,hco,hown,hft,hbw⟩:=hrel;rw[Hn.out] at hi;have hsz:=hbw.size;have hc:wr.cell? ⟨rb,0,none⟩=some (.slice a n cap):=(hbw.cell hrb).trans Hc0.out;have HB:=Lh hbw;have HS:=Lh (H.out.below hbw fun k hk=>H.out.lt hk);have Ho:=Lh hown;have Hft:=Lh hft;have HC:=Lh hsp;have Hco:=Lh hco;have HCl:=Lh hCl;clear hco hCl
  by_cases hin:i<n
  ·have hin2:i<R.length:=by rw[Hn.out];exact hin
   obtain⟨g,rfl,hcell⟩:=Hrow.out (by rw[Hn.out];omega);have hci0:w.cell? ⟨g,i,none⟩=some (R[i]).ptr:=hcell i _ (Zg hin2);have hg:g<w.heap.size:=H.out.lt (.inr (.inl (by rw[Hlv.out];rfl)));have hci:wr.cell? ⟨g,i,none⟩=some (R[i]).ptr:=(hbw.cell hg).trans hci0;have hpg:=HS.out.pages R[i] (List.getElem_mem hin2);obtain⟨c0,c1,c2⟩:=hpg.cells;have hcc:=hsp.cellHead;unfold Rp.ptr at hci;have Hcs:Hid (∀k,Rsp.foot rb lv R k→k<w.heap.size):=Lh fun k hk=>H.out.lt hk
   have hbl:=hpg.lt2;have hpl:=hpg.lt1;have hcbl:w.heap.size<wr.heap.size:=lQ hsp.head;have hol:=hpg.ok.len;have hby:∀W,Below wr.heap.size wr W→∀j u,(R[i].pg.bytes.map (Value.int .u8))[j]? =some u→W.cell? ((⟨R[i].bb,0,none⟩:Addr).add j)=some u:=by
    intro W hW j u hj;have hjl:j<256:=by have g1:=(List.getElem?_eq_some_iff.1 hj).1;rw[List.length_map] at g1;omega
    rw[show(⟨R[i].bb,0,none⟩:Addr).add j=⟨R[i].bb,j,none⟩ by simp[Addr.add]<;>omega,hW.cell (p:=⟨R[i].bb,j,none⟩) hbl,hpg.byte j hjl,←hj];simp[List.getD,Zg (show j<R[i].pg.bytes.length by omega)]
   have Hby:=Lh hby;have Hpg:=Lh hpg;have Hri:=Lh (show R[i]? =some R[i] from Zg hin2);have hcl1:=lQ hpg.page;clear hown hbw hpg hcell hci0 hsp hft hby;generalize hpp:R[i]=p at*;clear hpp;have Hup:=Lh H.out.up;have hlen8:(p.pg.bytes.map (Value.int .u8)).length=256:=by rw[List.length_map,hol]
   go_wp2;have HS7:Hid (∀W,Below wr.heap.size wr W→W.cell? ⟨w.heap.size,0,none⟩=some lvc∧W.cell? ⟨rb,0,none⟩=some (.slice (some ⟨g,0,none⟩) n cap)∧W.cell? ⟨g,i,none⟩=some (.pointer (some ⟨p.pg.blk,0,none⟩))∧W.cell? ⟨p.pg.blk,0,none⟩=some (.int .u32 p.pg.addr)∧W.cell? ⟨p.pg.blk,1,none⟩=some (.int .u8 p.pg.perm)∧W.cell? ⟨p.pg.blk,2,none⟩=some (.slice (some ⟨p.bb,0,none⟩) 256 p.cap)):=
    Lh fun W hW=>⟨(hW.cell (p:=⟨w.heap.size,0,none⟩) hcbl).trans hcc,(hW.cell (p:=⟨rb,0,none⟩) (Nat.lt_of_lt_of_le hrb hsz)).trans hc,(hW.cell (p:=⟨g,i,none⟩) (Nat.lt_of_lt_of_le hg hsz)).trans hci,(hW.cell (p:=⟨p.pg.blk,0,none⟩) hpl).trans c0,(hW.cell (p:=⟨p.pg.blk,1,none⟩) hpl).trans c1,(hW.cell (p:=⟨p.pg.blk,2,none⟩) hpl).trans c2⟩
   have Hnb:Hid (lvc.ownBlock≠some w.heap.size):=Lh (own_ne Ho.out HC.out.head (by decide));have Hfz:Hid (wr.frozen? ⟨w.heap.size,0,none⟩=false):=Lh (by have:=HC.out.head;unfold World.frozen?;rw[this];rfl);have Hne:Hid (lvc.ownBlock≠some p.pg.blk∧lvc.ownBlock≠some rb∧lvc.ownBlock≠some g∧p.pg.blk≠w.heap.size):=Lh ⟨own_ne Ho.out Hpg.out.page (by decide),fun e=>by have:=(Ho.out.lt _ e).1;omega,fun e=>by have:=(Ho.out.lt _ e).1;omega,by
    have:=(Hcs.out p.pg.blk (.inr (.inr ⟨p,List.mem_of_getElem? Hri.out,.inl rfl⟩)));omega⟩
   have Hkeep:Hid (∀W:World,(∀k,k<wr.heap.size→lvc.ownBlock≠some k→W.heap[k]? =wr.heap[k]?)→W.cell? ⟨rb,0,none⟩=some (.slice (some ⟨g,0,none⟩) n cap)∧W.cell? ⟨g,i,none⟩=some (.pointer (some ⟨p.pg.blk,0,none⟩))∧W.cell? ⟨p.pg.blk,0,none⟩=some (.int .u32 p.pg.addr)∧W.cell? ⟨p.pg.blk,1,none⟩=some (.int .u8 p.pg.perm)∧W.cell? ⟨p.pg.blk,2,none⟩=some (.slice (some ⟨p.bb,0,none⟩) 256 p.cap)):=
    Lh fun W hW=>⟨(World.cell?_of_block (w:=wr) (hW rb (by omega) Hne.out.2.1)).trans hc,(World.cell?_of_block (w:=wr) (hW g (by omega) Hne.out.2.2.1)).trans hci,(World.cell?_of_block (w:=wr) (hW _ hpl Hne.out.1)).trans c0,(World.cell?_of_block (w:=wr) (hW _ hpl Hne.out.1)).trans c1,(World.cell?_of_block (w:=wr) (hW _ hpl Hne.out.1)).trans c2⟩
   refine wp_region_E (fun w'=>w'.cell? ⟨w.heap.size,0,none⟩=some lvc∧w'.cell? ⟨rb,0,none⟩=some (.slice (some ⟨g,0,none⟩) n cap)∧w'.cell? ⟨g,i,none⟩=some (.pointer (some ⟨p.pg.blk,0,none⟩))∧w'.cell? ⟨p.pg.blk,0,none⟩=some (.int .u32 p.pg.addr)∧w'.cell? ⟨p.pg.blk,1,none⟩=some (.int .u8 p.pg.perm)∧w'.cell? ⟨p.pg.blk,2,none⟩=some (.slice (some ⟨p.bb,0,none⟩) 256 p.cap)) 42 (by kernel_rfl) ?_;have h0:=HS7.out _ (Below.refl _ wr).drew;refine LT 0 h0 ?_;refine LT 1 h0 ?_;refine LT 2 h0 ?_;refine LT 3 h0 ?_;refine LT 4 h0 ?_;refine LT 5 h0 ?_;refine LT 6 h0 ?_;refine LT 7 h0 ?_;refine LT 8 h0 ?_;refine LT 9 h0 ?_;refine LT 10 h0 ?_;refine LT 11 h0 ?_;refine LT 12 h0 ?_;refine LT 13 h0 ?_;refine LT 14 h0 ?_;refine LT 15 h0 ?_;refine LT 16 h0 ?_;refine LT 17 h0 ?_;refine LT 18 h0 ?_;refine LT 19 h0 ?_;refine LT 20 h0 ?_;refine LT 21 h0 ?_;refine LT 22 h0 ?_;refine LT 23 h0 ?_;refine LT 24 h0 ?_;refine LT 25 h0 ?_;refine LT 26 h0 ?_;refine LT 27 h0 ?_;refine LT 28 h0 ?_;refine LT 29 h0 ?_;refine LT 30 h0 ?_;refine LT 31 h0 ?_;refine LT 32 h0 ?_;refine LT 33 h0 ?_;refine LT 34 h0 ?_;refine LU 35 fun K hK=> ?_
   refine step_append_lies _ (by rfl) _ _ _ (by rfl) wr.heap.size 5 i1 (.int .u8 0) 1 1 Tryz.underlying43 Ki.out Kz0.out Kz1.out Kz2.out rfl (by omega) (.slice none 0 0) 0 [] (by rfl) (World.ownsRow_nil _ _ _ _) ⟨p.bb,0,none⟩ 256 p.cap (p.pg.bytes.map (Value.int .u8)) (by rfl) hlen8 (Hby.out _ Br.drew) (fun x hx=>by obtain⟨y,_,rfl⟩:=List.mem_map.1 hx;rfl) (by omega) (by unfold maxLen;omega) (by omega) (by simp) wr.heap.size (by simp) ?_;intro g1 cap1 w1 ho1 hg1 _ hl1;have hb1:Below wr.heap.size wr w1:=((Below.refl _ wr).drew).grown hg1 (by simp) (fun k e=>by cases e);have hz1:=hb1.size;have h1:=HS7.out _ hb1;refine LV hK (fun _=>h1) ?_;clear hK K;refine LT 36 h1 ?_;refine LU 37 fun K hK=> ?_
   go_simp;have h2:=HS7.out _ (hb1.alloc hz1 (.cells #[.int .u32 p.pg.addr,.int .u8 p.pg.perm,.slice (some ⟨g1,0,none⟩) 256 cap1] 279));refine LV hK (fun _=>h2) ?_;clear hK K;refine LU 38 fun K hK=> ?_
   go_simp;have hb3:=(hb1.alloc hz1 (.cells #[.int .u32 p.pg.addr,.int .u8 p.pg.perm,.slice (some ⟨g1,0,none⟩) 256 cap1] 279)).alloc (by simp;omega) (.cells #[.pointer (some ⟨w1.heap.size,0,none⟩)] 276);have h3:=HS7.out _ hb3;refine LV hK (fun _=>h3) ?_;clear hK K;refine LU 39 fun K hK=> ?_
   refine step_append_lies _ (by rfl) _ _ _ (by rfl) w.heap.size 276 i0 (.pointer none) 1 8 Tryz.underlying199 Hi.out Hz0.out Hz1.out Hz2.out rfl (by omega) lvc i (C.map Rp.ptr) (by rfl) (row_keep Ho.out fun k hk=>hb3.block k (Ho.out.lt k hk).2) ⟨w1.heap.size+1,0,none⟩ 1 1 [.pointer (some ⟨w1.heap.size,0,none⟩)] (by rfl) (by rfl) (cell_at1 _ _ _ _) (by simp[Value.oneCell']) (by omega) (by unfold maxLen;omega) (by omega) (by simp;omega) (w1.heap.size+2) (by simp) ?_;intro g4 cap4 w4 ho4 hg4 _ hl4;have hb4:∀k,k<wr.heap.size→lvc.ownBlock≠some k→w4.heap[k]? =wr.heap[k]? :=fun k hk hne=>(hg4.block k (by simp;omega) (fun e=>hne e.symm)).trans (hb3.block k hk)
   have hc4:w4.cell? ⟨w.heap.size,0,none⟩=some lvc:=(World.cell?_of_block (w:=wr) (hb4 _ hcbl Hnb.out)).trans hcc;have hf4:w4.frozen? ⟨w.heap.size,0,none⟩=false:=(World.frozen?_of_block (w:=wr) (hb4 _ hcbl Hnb.out)).trans Hfz.out;have h4:=And.intro hc4 (Hkeep.out _ hb4);refine LV hK (fun _=>h4) ?_;clear hK K;refine LU 40 fun K hK=> ?_
   go_simp;refine LV hK (fun _=>h4) ?_;clear hK K;refine LT 41 h4 ?_;refine LU 42 fun K hK=> ?_
   go_simp;refine hK.out _ _ (fun e=>absurd rfl e) (fun _=> ?_);clear hK K;try simp only[Act.put,Za,Zb,Zc,Zd,Ze,Zf]
   refine E_done (by kernel_rfl) ?_ _;go_wp2;refine⟨copy_step Hri.out Hpg.out HC.out HCl.out Hco.out Ho.out Hft.out HB.out Hup.out ho1 hb1 ((Ba _).alloc (by simp) _) (heap_alloc2_old _ _ _) ho4 hg4,by simp[intOf];omega⟩
  ·obtain rfl:i=n:=by omega
   have htk:R.take i=R:=List.take_of_length_le (by rw[Hn.out];exact Nat.le_refl _);rw[htk] at Hco;clear hown hbw htk;go_wp2;go_ret;exact⟨w.heap.size,lvc,C,rfl,HC.out,Hco.out,Hft.out,HB.out⟩
end Rs
open Go.RowKit Word
namespace En
structure Like(E F:En):Prop where
 num:E.num=F.num
 kind:E.kind=F.kind
 code:E.code=F.code
 why:E.why=F.why
 text:E.text=F.text
 own:E.own=F.own
 A:cores E.A=cores F.A
 r:E.r=F.r
 pc:E.pc=F.pc
section
variable {E F:En}
theorem Like.stp(h:Like E F):Cp.Like (Cp.stp E.A E.r E.pc) (Cp.stp F.A F.r F.pc):=by
 rw[h.r,h.pc];exact Cp.like_stp h.A _ _
theorem Like.stop(h:Like E F):E.stop=F.stop:=by
 unfold En.stop;rw[h.kind,h.stp.kind,h.stp.num,h.stp.why]
theorem Like.step(h:Like E F):Like E.step F.step:=by
 unfold En.step;rw[h.kind]
 by_cases g:F.kind≠2
 ·rw[if_pos g,if_pos g];exact h
 ·rw[if_neg g,if_neg g];have hs:=h.stp;simp only;rw[hs.kind]
  by_cases q:(Cp.stp F.A F.r F.pc).kind=2
  ·rw[if_pos q,if_pos q];exact⟨h.num,rfl,rfl,hs.why,h.text,h.own,hs.cores,hs.r,hs.pc⟩
  ·rw[if_neg q,if_neg q];exact⟨h.num,rfl,h.code,h.why,h.text,h.own,hs.cores,hs.r,hs.pc⟩
theorem Like.exit(h:Like E F)(c:Int):Like (E.exit c) (F.exit c):=by
 unfold En.exit;rw[h.kind]
 split
 ·exact h
 ·exact⟨h.num,rfl,rfl,rfl,h.text,h.own,h.A,h.r,h.pc⟩
theorem Like.mayE(h:Like E F)(x:Int):E.mayE x=F.mayE x:=by unfold En.mayE;rw[h.kind]
theorem Like.pageE(h:Like E F)(x:Int):E.pageE x=F.pageE x:=by unfold En.pageE;rw[h.mayE,Cor.mapE h.A]
theorem Like.page(h:Like E F)(x:Int)(b c:Nat):Like (E.page x b) (F.page x c):=by
 unfold En.page;rw[h.pageE]
 split
 ·exact h
 ·exact⟨h.num,h.kind,h.code,h.why,h.text,by show En.ins x E.own=En.ins x F.own;rw[h.own],Cor.mapA h.A x b c 3,h.r,h.pc⟩
theorem Like.dropE(h:Like E F)(x:Int):E.dropE x=F.dropE x:=by unfold En.dropE;rw[h.mayE,h.own,Cor.unmapE h.A]
theorem Like.drop(h:Like E F)(x:Int):Like (E.drop x) (F.drop x):=by
 unfold En.drop;rw[h.mayE,h.own]
 split
 ·exact h
 ·split
  ·exact⟨h.num,h.kind,h.code,h.why,h.text,rfl,Cor.unmapA h.A x,h.r,h.pc⟩
  ·exact h
theorem Like.putE(h:Like E F)(s:ByteArray):E.putE s=F.putE s:=by unfold En.putE;rw[h.kind,h.text]
theorem Like.put(h:Like E F)(s:ByteArray):Like (E.put s) (F.put s):=by
 unfold En.put;rw[h.putE]
 split
 ·exact h
 ·exact⟨h.num,h.kind,h.code,h.why,by show E.text++s=F.text++s;rw[h.text],h.own,h.A,h.r,h.pc⟩
theorem Like.arg(h:Like E F)(n:Int):E.arg n=F.arg n:=by unfold En.arg;rw[h.r]
end
end En
structure RAt where
 eb:Nat
 rb:Nat
 lv:Value
 cb:Nat
 ow:Value
def RAt.foot(a:RAt)(R:List Rp)(k:Nat):Prop:=k=a.eb∨k=a.cb∨Rsp.foot a.rb a.lv R k∨a.ow.ownBlock=some k
def RAt.cells(a:RAt)(E:En):Array Value:= #[.int .i64 E.num,.pointer (some ⟨a.rb,0,none⟩),.pointer (some ⟨a.cb,0,none⟩),.int .u8 E.kind,.int .u32 E.code,.int .i64 E.why,a.ow,.string E.text]
structure Renv(w:World)(a:RAt)(R:List Rp)(E:En):Prop where
 blk:w.heap[a.eb]? =some (.cells (a.cells E) 306 (0,0))
 cp:Cpu 198 w a.cb E.r E.pc
 rp:Rsp w a.rb a.lv R
 eq:rpgs R=E.A
 ls:Sl.Lst w a.ow E.own
 ec:a.eb≠a.cb
 es:¬Rsp.foot a.rb a.lv R a.eb
 cs:¬Rsp.foot a.rb a.lv R a.cb
 le:∀g,a.ow.ownBlock=some g→g<w.heap.size∧g≠a.eb∧g≠a.cb∧¬Rsp.foot a.rb a.lv R g
 ok:E.Ok
namespace Renv
variable {w w':World} {a:RAt} {R:List Rp} {E:En}
theorem lt(h:Renv w a R E)(k:Nat)(hk:a.foot R k):k<w.heap.size:=by
 rcases hk with rfl|rfl|g|g
 ·exact lQ h.blk
 ·exact h.cp.lt
 ·exact h.rp.lt g
 ·exact(h.le k g).1
theorem frame(h:Renv w a R E)(hf:∀k,a.foot R k→w'.heap[k]? =w.heap[k]?)(hz:w.heap.size≤w'.heap.size):Renv w' a R E:=
 {
  h with
  blk:=(hf _ (.inl rfl)).trans h.blk
  cp:=h.cp.frame (hf _ (.inr (.inl rfl)))
  rp:=h.rp.frame fun k hk=>hf k (.inr (.inr (.inl hk)))
  ls:=h.ls.frame fun g hg=>hf g (.inr (.inr (.inr hg)))
  le:=fun g hg=>⟨Nat.lt_of_lt_of_le (h.le g hg).1 hz,(h.le g hg).2⟩ }
theorem below(h:Renv w a R E)(hb:Below w.heap.size w w'):Renv w' a R E:=h.frame (fun k hk=>hb.block k (h.lt k hk)) hb.size
theorem keep{F:Nat→Prop}(h:Renv w a R E)(hm:Mod F w w')(hF:∀k,a.foot R k→¬F k):Renv w' a R E:=h.frame (fun k hk=>hm.block k (h.lt k hk) (hF k hk)) hm.size
theorem cell(h:Renv w a R E)(i:Nat)(v:Value)(hi:(a.cells E)[i]? =some v):w.cell? ⟨a.eb,i,none⟩=some v:=by
 unfold World.cell?;rw[h.blk];exact hi
end Renv
theorem rcores_cores{C R:List Rp}(h:rcores C=rcores R):cores (rpgs C)=cores (rpgs R):=h
def RNewPost(w:World)(R:List Rp)(num pc:Int)(e:Ending)(w':World):Prop:=
 ∃a C,e=.returned (.tuple #[.pointer (some ⟨a.eb,0,none⟩),.bool true])∧Renv w' a C (En.new num pc (rpgs C))∧cores (rpgs C)=cores (rpgs R)∧(∀k,a.foot C k→w.heap.size≤k)∧Below w.heap.size w w'
namespace Rv
section
variable {w:World} {rb:Nat} {lv:Value} {R:List Rp}
theorem new(h:Rsp w rb lv R)(num pc:Int)(n0:1≤num)(n1:num≤8)(p0:0≤pc)(p1:pc≤4294967295):Calls Tryz.prog 197 #[.int .i64 num,.pointer (some ⟨rb,0,none⟩),.int .u32 pc] w (RNewPost w R num pc):=by
 have HC:=Lh (Rs.copy h);have g1:¬num<1:=by omega
 have g2:¬8<num:=by omega
 have HFin:Hid (∀cb lvc C w2,Rsp w2 cb lvc C→rcores C=rcores R→(∀k,Rsp.foot cb lvc C k→w.heap.size≤k)→Below w.heap.size w w2→
   RNewPost w R num pc (.returned (.tuple #[.pointer (some ⟨w2.heap.size+1,0,none⟩),.bool true])) ((w2.alloc (.cells #[.int .u32 0,.int .u32 0,.int .u32 0,.int .u32 0,.int .u32 0,.int .u32 0,.int .u32 0,.int .u32 0,.int .u32 0,.int .u32 0,.int .u32 0,.int .u32 0,.int .u32 0,.int .u32 0,.int .u32 0,.int .u32 0,.int .u32 pc] 198)).alloc (.cells #[.int .i64 num,.pointer (some ⟨cb,0,none⟩),.pointer (some ⟨w2.heap.size,0,none⟩),.int .u8 2,.int .u32 0,.int .i64 0,.slice none 0 0,.string ⟨#[]⟩] 306))):=Lh fun cb lvc C w2 hs hc hf hb=>by
  have hz:=hb.size;have hb1:Below w2.heap.size w2 (w2.alloc (.cells #[.int .u32 0,.int .u32 0,.int .u32 0,.int .u32 0,.int .u32 0,.int .u32 0,.int .u32 0,.int .u32 0,.int .u32 0,.int .u32 0,.int .u32 0,.int .u32 0,.int .u32 0,.int .u32 0,.int .u32 0,.int .u32 0,.int .u32 pc] 198)):=Ba _;have hz1:(w2.alloc (.cells #[.int .u32 0,.int .u32 0,.int .u32 0,.int .u32 0,.int .u32 0,.int .u32 0,.int .u32 0,.int .u32 0,.int .u32 0,.int .u32 0,.int .u32 0,.int .u32 0,.int .u32 0,.int .u32 0,.int .u32 0,.int .u32 0,.int .u32 pc] 198)).heap.size=w2.heap.size+1:=by simp
  have hcp:Cpu 198 (w2.alloc (.cells #[.int .u32 0,.int .u32 0,.int .u32 0,.int .u32 0,.int .u32 0,.int .u32 0,.int .u32 0,.int .u32 0,.int .u32 0,.int .u32 0,.int .u32 0,.int .u32 0,.int .u32 0,.int .u32 0,.int .u32 0,.int .u32 0,.int .u32 pc] 198)) w2.heap.size (List.replicate 16 0) pc:=⟨heap_alloc_new w2 _,⟨rfl,fun x hx=>by rw[List.eq_of_mem_replicate hx];omega⟩,p0,p1⟩;generalize w2.alloc (.cells #[.int .u32 0,.int .u32 0,.int .u32 0,.int .u32 0,.int .u32 0,.int .u32 0,.int .u32 0,.int .u32 0,.int .u32 0,.int .u32 0,.int .u32 0,.int .u32 0,.int .u32 0,.int .u32 0,.int .u32 0,.int .u32 0,.int .u32 pc] 198)=w3 at*;have hba:Below w3.heap.size w3 (w3.alloc (.cells #[.int .i64 num,.pointer (some ⟨cb,0,none⟩),.pointer (some ⟨w2.heap.size,0,none⟩),.int .u8 2,.int .u32 0,.int .i64 0,.slice none 0 0,.string ⟨#[]⟩] 306)):=Ba _;have hen:=heap_alloc_new w3 (.cells #[.int .i64 num,.pointer (some ⟨cb,0,none⟩),.pointer (some ⟨w2.heap.size,0,none⟩),.int .u8 2,.int .u32 0,.int .i64 0,.slice none 0 0,.string ⟨#[]⟩] 306);rw[hz1] at hen;refine⟨⟨w2.heap.size+1,cb,lvc,w2.heap.size,.slice none 0 0⟩,C,rfl, ?_,rcores_cores hc,fun k hk=> ?_, ?_⟩
  ·exact { blk:=hen,cp:=hcp.below hba,rp:=(hs.same hb1).same hba,eq:=rfl,ls:=Sl.Lst.nil _,ec:=by show w2.heap.size+1≠w2.heap.size;omega,es:=fun g=>absurd (hs.lt g) (by show¬w2.heap.size+1<w2.heap.size;omega),cs:=fun g=>Nat.lt_irrefl _ (hs.lt g),le:=fun g hg=>(nomatch hg),ok:=⟨List.Pairwise.nil,fun x hx=>(nomatch hx),fun x hx=>(nomatch hx),Nat.zero_le _⟩ }
  ·rcases hk with g|g|g|g
   ·rw[g];show w.heap.size≤w2.heap.size+1;omega
   ·rw[g];exact hz
   ·exact hf k g
   ·cases g
  ·exact(hb.trans (hb1.mono hz)).alloc (by omega) _
 generalize RNewPost w R num pc=PQ at*;clear h;go_enter func197,ntmps197;go_wp2_with fail;refine HC.out.mono ?_;rintro e w2 ⟨cb,lvc,C,rfl,hs,hc,hf,hb⟩;have HS:=Lh (⟨hs,hc,hf,hb⟩:Rsp w2 cb lvc C∧rcores C=rcores R∧(∀k,Rsp.foot cb lvc C k→w.heap.size≤k)∧Below w.heap.size w w2);clear hs hc hf hb;go_wp2;exact HFin.out cb lvc C w2 HS.out.1 HS.out.2.1 HS.out.2.2.1 HS.out.2.2.2
end
end Rv
end Go.Proofs.YtnpicaigdfnmfaaGreat
namespace Go.Proofs.YtnpicaigdfnmfaaGreat.Word
open Go.RowKit
theorem rev2(b cap:Nat)(x0 x1:Int)(w:World)(c0:w.cell? ⟨b,0,none⟩=some (.int .u8 x0))(c1:w.cell? ⟨b,1,none⟩=some (.int .u8 x1))(f0:w.frozen? ⟨b,0,none⟩=false)(f1:w.frozen? ⟨b,1,none⟩=false):
  Calls Tryz.prog 243 #[.slice (some ⟨b,0,none⟩) 2 cap] w fun e w'=>e=.returned (.tuple #[])∧Row8 w' b [x1,x0]∧Below b w w':=by
 go_enter func243,ntmps243;go_wp2;refine wp_loop_rounds 2 ?_;rw[rounds_succ];go_wp2;go_region;go_wp2;rw[rounds_succ];go_wp2;go_end0;refine⟨rfl,row8_of2 (by go_simp) (by go_simp), ?_⟩
 repeat (first|exact Below.refl _ _|apply Below.drew|refine Below.setCell ?_ (by simp) _)
theorem turned2(s:ByteArray)(hs:s.size=2)(w:World):Calls Tryz.prog 176 #[.string s] w fun e w'=>e=.returned (.string (strOfNums [(nums s).getD 1 0,(nums s).getD 0 0]))∧Below w.heap.size w w':=by
 have hcv:=fun(w:World)=>run_bytes_of_string (P:=Tryz.prog) w 9 43 5 s Tryz.underlying9 Tryz.underlying43 Tryz.underlying5
 have hfb:=Lh (fun w c j t fr hj=>fresh_bytes w s c j t fr hj);have hff:=Lh (fun w c j t hj=>fresh_free w s c j t hj);go_enter func176,ntmps176;go_wp2_with fail;refine(rev2 _ _ ((nums s).getD 0 0) ((nums s).getD 1 0) _ (hfb.out _ _ _ _ _ (by omega)) (hfb.out _ _ _ _ _ (by omega)) (hff.out _ _ _ _ (by omega)) (hff.out _ _ _ _ (by omega))).mono ?_;rintro e w1 ⟨rfl,hr,hb⟩;have hcv2:=fun cap=>run_convert_bytes_arg (P:=Tryz.prog) w1 43 5 Tryz.underlying43 Tryz.underlying5 w.heap.size 0 2 cap _ rfl hr 9 Tryz.underlying9
 have Hb:=Lh hb;clear hr hb;go_wp2;go_ret;exact⟨rfl,(((Ba _).drew).trans Hb.out)⟩
end Go.Proofs.YtnpicaigdfnmfaaGreat.Word
namespace Go.Proofs.YtnpicaigdfnmfaaGreat.Word
open Go.RowKit
theorem reverse_bd{l:List Int}(h:∀x,x∈l→0≤x∧x<256):∀x,x∈l.reverse→0≤x∧x<256:=fun x hx=>h x (by simpa using hx)
theorem list_of2(l:List Int)(h:l.length=2):[l.getD 1 0,l.getD 0 0]=l.reverse:=by
 match l,h with
 | [a,b],_=>rfl
theorem getHigh2(s:ByteArray)(hs:s.size=2)(w:World):
  Calls Tryz.prog 123 #[.string s] w fun e w'=>e=.returned (.tuple #[.int .u32 (getV (nums s).reverse),.int .i64 0])∧Below w.heap.size w w':=by
 have Hs:=Lh hs;have hl:(nums s).length=2:=by rw[nums_length,hs]
 obtain⟨t,ht⟩:∃t,t=strOfNums (nums s).reverse:=⟨_,rfl⟩;have htz:t.size=2:=by rw[ht,strOfNums_size,List.length_reverse,hl]
 have htn:nums t=(nums s).reverse:=by rw[ht];exact nums_strOfNums _ (reverse_bd (nums_bd s))
 have Ht:=Lh (show strOfNums [(nums s).getD 1 0,(nums s).getD 0 0]=t by rw[ht,list_of2 _ hl]);have Hz:=Lh htz;have Hn:=Lh htn;clear hl ht htz htn;go_enter func123,ntmps123;go_wp2_with (first|(go_at_call 176;refine(turned2 _ Hs.out _).mono ?_;rintro e w2 ⟨rfl,hb⟩;rw[Ht.out])|(go_at_call 175;refine(get_ok t (by rw[Hz.out];omega) (by rw[Hz.out];omega) _).mono ?_;rintro e w3 ⟨rfl,rfl⟩));go_ret2;exact⟨ret_ie (by rw[Hn.out]),by assumption⟩
end Go.Proofs.YtnpicaigdfnmfaaGreat.Word
namespace Go.Proofs.YtnpicaigdfnmfaaGreat
open Go.RowKit
theorem SlV.pop{w:World}{e:TypeId}{a:Option Addr}{n cap:Nat}{x:Value}{xs:List Value}(h:SlV w e 1 (.slice a (n+1) cap) (n+1) (x::xs)):SlV w e 1 (sliced a 1 (n+1) (n+1) 1) n xs∧(sliced a 1 (n+1) (n+1) 1).ownBlock=(Value.slice a (n+1) cap).ownBlock:=by
 obtain⟨hl,h⟩:=h;rcases h with⟨h0,_⟩|⟨g,off,cap',cur,hv,hg,hc,hm,hs,ht⟩
 ·omega
 ·simp only[Value.slice.injEq] at hv;obtain⟨rfl,_,rfl⟩:=hv;have hx:xs.length=n:=by simp at hl;omega
  cases n with
  |zero=>
   refine⟨⟨by omega,.inl ⟨rfl,_,rfl⟩⟩,rfl⟩
  |succ n=>
   refine⟨⟨by omega,.inr ⟨g,off+1,n+1,cur, ?_,hg,Nat.le_refl _,by omega,by omega,fun j hj=> ?_⟩⟩, ?_⟩
   ·simp[sliced,Addr.add]
   ·have:=ht (j+1) (by omega);rw[show off+(j+1)=off+1+j by omega] at this;rw[this];rfl
   ·simp[sliced,Addr.add,Value.ownBlock]
theorem SlV.setCell{w:World}{e:TypeId}{s:Nat}{g off n cap:Nat}{xs:List Value}(h:SlV w e s (.slice (some ⟨g,off,none⟩) n cap) n xs)(j:Nat)(hj:j<n*s)(u:Value):SlV (w.setCell ⟨g,off+j,none⟩ u) e s (.slice (some ⟨g,off,none⟩) n cap) n (xs.set j u):=by
 obtain⟨hl,h⟩:=h;refine⟨by rw[List.length_set];exact hl, ?_⟩;rcases h with⟨rfl,_⟩|⟨g',off',cap',cur,hv,hg,hc,hm,hs,ht⟩
 ·omega
 ·simp only[Value.slice.injEq,Option.some.injEq,Addr.mk.injEq,and_true,true_and] at hv;obtain⟨⟨rfl,rfl⟩,rfl⟩:=hv;refine .inr ⟨g,off,cap,_,rfl,heap_setCell_same w g (off+j) cur e u hg,hc,hm,by simpa using hs,fun i hi=> ?_⟩;have hsz:off+j<cur.size:=by
   have:n*s≤cap*s:=Nat.mul_le_mul_right _ hc;omega
  rw[Array.getElem?_setIfInBounds,List.getElem?_set]
  by_cases hij:j=i
  ·subst hij;rw[if_pos rfl,if_pos rfl,if_pos hsz,if_pos (by omega)]
  ·rw[if_neg (by omega),if_neg hij,ht i hi]
namespace Ni
structure NicS where
 ports:List Int
 q:Int→List ByteArray
 sent:List ByteArray
 gone:Int
def slcElem(v:Value):Option (DataW Unit×List MemPlace):=
 match v with
 | .slice none n cap=>some (.agg [.lit (.int .i64 (-1)),.lit (.int .i64 0),.lit (.int .i64 n),.lit (.int .i64 cap)],[])
 | .slice (some ⟨b,off,none⟩) n cap=>some (.agg [.lit (.int .i64 b),.lit (.int .i64 off),.lit (.int .i64 n),.lit (.int .i64 cap)],[])
 |_=>none
theorem slcElem_inj{v v':Value}{d:DataW Unit}{p p':List MemPlace}(h:slcElem v=some (d,p))(h':slcElem v'=some (d,p')):v=v':=by
 unfold slcElem at h h'
 split at h<;>split at h'<;>simp at h h'<;>obtain⟨rfl,rfl⟩:=h<;>simp at h'<;>simp<;>omega
def nilD:DataW Unit:=.agg [.lit (.int .i64 (-1)),.lit (.int .i64 0),.lit (.int .i64 (0:Nat)),.lit (.int .i64 (0:Nat))]
def foot(nb mb:Nat)(V:Int→Value)(sv:Value)(k:Nat):Prop:=k=nb∨k=mb∨sv.ownBlock=some k∨∃x,(V x).ownBlock=some k
structure Nc(w:World)(nb mb:Nat)(V:Int→Value)(sv:Value)(S:NicS):Prop where
 head:w.heap[nb]? =some (.cells #[.map (some mb),sv,.int .i64 S.gone] 268 (0,0))
 map:∃D n,w.ownsMap Tryz.prog 22 slcElem mb n D∧(∀x,slcElem (V x)=some (D.atKey (.int .u16 x) nilD,[]))∧Maps.size D=S.ports.length∧∀x,Maps.has D (.int .u16 x)=decide (x∈S.ports)
 rows:∀x,SlV w 9 1 (V x) (S.q x).length ((S.q x).map .string)
 sent:SlV w 9 1 sv S.sent.length (S.sent.map .string)
 nodup:S.ports.Nodup
 range:∀x,x∈S.ports→0≤x∧x<65536
 apart:∀x y k,x≠y→(V x).ownBlock=some k→(V y).ownBlock≠some k
 sapart:∀x k,(V x).ownBlock=some k→sv.ownBlock≠some k
 rapart:∀x,(V x).ownBlock≠some nb∧(V x).ownBlock≠some mb
 tapart:sv.ownBlock≠some nb∧sv.ownBlock≠some mb
 small:∀x,(S.q x).length≤8
 lt:∀k,foot nb mb V sv k→k<w.heap.size
theorem Nc.frame{w w':World}{nb mb:Nat}{V:Int→Value}{sv:Value}{S:NicS}(h:Nc w nb mb V sv S)(hs:w.heap.size≤w'.heap.size)(hf:∀k,foot nb mb V sv k→w'.heap[k]? =w.heap[k]?):Nc w' nb mb V sv S:=by
 refine⟨(hf nb (.inl rfl)).trans h.head, ?_,fun x=>(h.rows x).keep fun g hg=>hf g (.inr (.inr (.inr ⟨x,hg⟩))),h.sent.keep fun g hg=>hf g (.inr (.inr (.inl hg))),h.nodup,h.range,h.apart,h.sapart,h.rapart,h.tapart,h.small,fun k hk=>Nat.lt_of_lt_of_le (h.lt k hk) hs⟩;obtain⟨D,n,ho,hv,hz,hh⟩:=h.map;obtain⟨es,clock,hb,rest⟩:=ho;exact⟨D,n,⟨es,clock,(hf mb (.inr (.inl rfl))).trans hb,rest⟩,hv,hz,hh⟩
theorem Nc.keep{w w':World}{nb mb:Nat}{V:Int→Value}{sv:Value}{S:NicS}{G:Nat→Prop}(h:Nc w nb mb V sv S)(hm:Mod G w w')(hf:∀k,foot nb mb V sv k→¬G k):Nc w' nb mb V sv S:=
 h.frame hm.size fun k hk=>hm.block k (h.lt k hk) (hf k hk)
theorem zeroSlice(w:World):(zeroValue 265).run Tryz.prog w=.ok (.slice none 0 0) w:=by kernel_rfl
theorem wf_u16{x:Int}(h0:0≤x)(h1:x<65536):(Lit.int .u16 x).wf=true:=by simp[Lit.wf,IntKind.min,IntKind.max,IntKind.signed,IntKind.bits];omega
theorem Nc.look{w:World}{nb mb:Nat}{V:Int→Value}{sv:Value}{S:NicS}(h:Nc w nb mb V sv S)(x:Int)(h0:0≤x)(h1:x<65536):
  (Instr.lookup 266 (.map (some mb)) (.int .u16 x) false).run Tryz.prog w=.ok (V x) w:=by
 obtain⟨D,n,ho,hv,_⟩:=h.map;obtain⟨v,ps,hrun,hR⟩:=ho.lookup (Maps.int_keyed Tryz.underlying22) Tryz.underlying266 (zeroSlice w) (z:=.slice none 0 0) (zd:=nilD) (zp:=[]) rfl (Maps.keyOf_int_mk Tryz.underlying22 (wf_u16 h0 h1));rw[hrun,slcElem_inj hR (hv x)]
theorem Nc.cellMap{w:World}{nb mb:Nat}{V:Int→Value}{sv:Value}{S:NicS}(h:Nc w nb mb V sv S):w.cell? ⟨nb,0,none⟩=some (.map (some mb)):=by
 unfold World.cell?;rw[h.head];rfl
theorem Nc.cellSent{w:World}{nb mb:Nat}{V:Int→Value}{sv:Value}{S:NicS}(h:Nc w nb mb V sv S):w.cell? ⟨nb,1,none⟩=some sv:=by
 unfold World.cell?;rw[h.head];rfl
theorem nodup_bd:∀(n:Nat) (l:List Int),l.Nodup→(∀x,x∈l→0≤x∧x<n)→l.length≤n
 |0,l,_,h=>by
  cases l with
  |nil=>simp
  |cons a r=>have:=h a (by simp);omega
 |n+1,l,hn,h=>by
  have:=nodup_bd n (l.erase n) (hn.erase _) fun x hx=>by
   have h1:=h x (List.mem_of_mem_erase hx);have h2:x≠n:=((List.Nodup.mem_erase_iff hn).1 hx).1;omega
  rw[List.length_erase] at this
  split at this<;>omega
def updQ{X:Type}(f:Int→X)(x:Int)(y:X)(z:Int):X:=if z=x then y else f z
theorem updQ_same{X:Type}(f:Int→X)(x:Int)(y:X):updQ f x y x=y:=if_pos rfl
theorem updQ_other{X:Type}(f:Int→X)(x:Int)(y:X){z:Int}(h:z≠x):updQ f x y z=f z:=if_neg h
def putPort(l:List Int)(x:Int):List Int:=if x∈l then l else x::l
theorem mem_putPort(l:List Int)(x y:Int):y∈putPort l x↔y=x∨y∈l:=by
 unfold putPort
 split
 ·rename_i h
  exact⟨.inr,fun g=>by rcases g with rfl|g;exact h;exact g⟩
 ·simp
def qSet(S:NicS)(x:Int)(l:List ByteArray):NicS:= { S with ports:=putPort S.ports x,q:=updQ S.q x l }
theorem own_tight{w:World}{P:Program}{k:TypeId}{R:Value→Option (DataW Unit×List MemPlace)}{b n:Nat}{D:DataW Unit}(h:w.ownsMap P k R b n D):w.ownsMap P k R b (Maps.size D) D:=by
 obtain⟨es,clock,hb,F,hs,rfl⟩:=h;exact⟨es,clock,hb,F,by simp[Maps.size,length_sorted],rfl⟩
theorem Nc.store{w w1:World}{nb mb:Nat}{V:Int→Value}{sv:Value}{S:NicS}(h:Nc w nb mb V sv S)(x:Int)(h0:0≤x)(h1:x<65536)(hm:Mod (fun k=>(V x).ownBlock=some k) w w1)(v:Value)(l:List ByteArray)
  (hv:SlV w1 9 1 v l.length (l.map .string)) (hel:∃d,slcElem v=some (d,[])) (hb:v.ownBlock=(V x).ownBlock∨∃k,v.ownBlock=some k∧w.heap.size≤k) (hk:∀k,v.ownBlock=some k→k<w1.heap.size) (hl:l.length≤8):
  ∃w',(Instr.mapUpdate 266 (.map (some mb)) (.int .u16 x) v).run Tryz.prog w1=.ok () w'∧Nc w' nb mb (updQ V x v) sv (qSet S x l)∧Mod (fun k=>k=mb) w1 w':=by
 obtain⟨D,n,ho,hV,hs,hh⟩:=h.map;have hnb:=h.lt nb (.inl rfl);have hmb:=h.lt mb (.inr (.inl rfl));have ho1:w1.ownsMap Tryz.prog 22 slcElem mb n D:=by
  obtain⟨es,clock,hbk,rest⟩:=ho;exact⟨es,clock,(hm.block mb hmb (h.rapart x).2).trans hbk,rest⟩
 have ht:=own_tight ho1;have hln:S.ports.length≤65536:=nodup_bd 65536 _ h.nodup fun y hy=>h.range y hy
 obtain⟨d,hd⟩:=hel;have K:=Maps.int_keyed (P:=Tryz.prog) Tryz.underlying22;have hkey:=Maps.keyOf_int_mk (P:=Tryz.prog) Tryz.underlying22 (wf_u16 h0 h1);obtain⟨w',hrun,how,htu⟩:=ht.store K Tryz.underlying266 (by rw[hs];unfold maxLen;omega) (val:=v) (d:=d) (ps:=[]) hkey hd;have hg:=htu.grown;have hne:∀k,k<w1.heap.size→k≠mb→w'.heap[k]? =w1.heap[k]? :=fun k hk hkm=>hg.block k hk (by simpa using hkm)
 have hfresh:∀k,v.ownBlock=some k→(V x).ownBlock=some k∨w.heap.size≤k:=by
  intro k hk';rcases hb with g|⟨k',g,hge⟩
  ·exact .inl (g▸hk')
  ·rw[hk'] at g;cases g;exact .inr hge
 have hvm:∀k,v.ownBlock=some k→k≠mb∧k≠nb:=by
  intro k hk';rcases hfresh k hk' with g|g
  ·exact⟨fun e=>(h.rapart x).2 (e▸g),fun e=>(h.rapart x).1 (e▸g)⟩
  ·omega
 have hnx:nb≠mb:=by
  intro e;have:=h.head;obtain⟨es,clock,hbk,_⟩:=ho;rw[e,hbk] at this;cases this
 refine⟨w',hrun,⟨?_,⟨_,_,how, ?_, ?_, ?_⟩, ?_, ?_, ?_, ?_, ?_, ?_, ?_,h.tapart, ?_, ?_⟩,⟨hg.os,hg.tape,hg.output,hg.size,fun k hk hkm=>hne k hk hkm⟩⟩
 ·exact(hne nb (by have:=hm.size;omega) hnx).trans ((hm.block nb hnb (h.rapart x).1).trans h.head)
 ·intro y
  by_cases e:y=x
  ·subst e;rw[updQ_same,Maps.atKey_put_same ht.isMap (K.key hkey)];exact hd
  ·rw[updQ_other _ _ _ e,Maps.atKey_put_other (by intro g;simp at g;exact e g)];exact hV y
 ·rw[Maps.size_put (ht.tidy K),hs,hh]
  show _=(putPort S.ports x).length
  unfold putPort
  by_cases e:x∈S.ports<;>simp[e]
 ·intro y;rw[show(qSet S x l).ports=putPort S.ports x from rfl]
  by_cases e:y=x
  ·subst e;rw[Maps.has_put_same ht.isMap (K.key hkey)];simp[mem_putPort]
  ·rw[Maps.has_put_other (by intro g;simp at g;exact e g),hh];simp[mem_putPort,e]
 ·intro y
  show SlV w' _ 1 (updQ V x v y) (updQ S.q x l y).length ((updQ S.q x l y).map .string)
  by_cases e:y=x
  ·subst e;rw[updQ_same,updQ_same];exact hv.keep fun g hg'=>hne g (hk g hg') (hvm g hg').1
  ·rw[updQ_other _ _ _ e,updQ_other _ _ _ e];refine(h.rows y).keep fun g hg'=>(hne g ?_ ?_).trans (hm.block g (h.lt g (.inr (.inr (.inr ⟨y,hg'⟩)))) fun hx=>h.apart x y g (Ne.symm e) hx hg')
   ·have:=h.lt g (.inr (.inr (.inr ⟨y,hg'⟩)));have:=hm.size;omega
   ·rintro rfl;exact(h.rapart y).2 hg'
 ·refine h.sent.keep fun g hg'=>(hne g ?_ ?_).trans (hm.block g (h.lt g (.inr (.inr (.inl hg')))) fun hx=>h.sapart x g hx hg')
  ·have:=h.lt g (.inr (.inr (.inl hg')));have:=hm.size;omega
  ·rintro rfl;exact h.tapart.2 hg'
 ·show(putPort S.ports x).Nodup
  unfold putPort
  split
  ·exact h.nodup
  ·rename_i hx
   exact List.nodup_cons.2 ⟨hx,h.nodup⟩
 ·intro y hy;rcases(mem_putPort _ _ _).1 hy with rfl|hy
  ·exact⟨h0,h1⟩
  ·exact h.range y hy
 ·intro y z k hyz hy hz
  by_cases e:y=x
  ·subst e;rw[updQ_same] at hy;rw[updQ_other _ _ _ (Ne.symm hyz)] at hz;rcases hfresh k hy with g|g
   ·exact h.apart y z k hyz g hz
   ·have:=h.lt k (.inr (.inr (.inr ⟨z,hz⟩)));omega
  ·rw[updQ_other _ _ _ e] at hy
   by_cases e2:z=x
   ·subst e2;rw[updQ_same] at hz;rcases hfresh k hz with g|g
    ·exact h.apart y z k hyz hy g
    ·have:=h.lt k (.inr (.inr (.inr ⟨y,hy⟩)));omega
   ·rw[updQ_other _ _ _ e2] at hz;exact h.apart y z k hyz hy hz
 ·intro y k hy hs'
  by_cases e:y=x
  ·subst e;rw[updQ_same] at hy;rcases hfresh k hy with g|g
   ·exact h.sapart y k g hs'
   ·have:=h.lt k (.inr (.inr (.inl hs')));omega
  ·rw[updQ_other _ _ _ e] at hy;exact h.sapart y k hy hs'
 ·intro y
  by_cases e:y=x
  ·subst e;rw[updQ_same];exact⟨fun g=>(hvm nb g).2 rfl,fun g=>(hvm mb g).1 rfl⟩
  ·rw[updQ_other _ _ _ e];exact h.rapart y
 ·intro y
  show(updQ S.q x l y).length≤8
  by_cases e:y=x
  ·subst e;rw[updQ_same];exact hl
  ·rw[updQ_other _ _ _ e];exact h.small y
 ·intro k hk';have hs1:=hm.size;have hs2:=hg.size;rcases hk' with rfl|rfl|g|⟨y,g⟩
  ·omega
  ·omega
  ·have:=h.lt k (.inr (.inr (.inl g)));omega
  ·by_cases e:y=x
   ·subst e;rw[updQ_same] at g;have:=hk k g;omega
   ·rw[updQ_other _ _ _ e] at g;have:=h.lt k (.inr (.inr (.inr ⟨y,g⟩)));omega
def NicO(w:World)(F:Nat→Prop)(nb:Nat)(S:NicS):Prop:=∃mb V sv,Nc w nb mb V sv S∧∀k,foot nb mb V sv k→F k
def Fr(F:Nat→Prop)(w:World)(k:Nat):Prop:=F k∨w.heap.size≤k
theorem NicO.mono{w:World}{F G:Nat→Prop}{nb:Nat}{S:NicS}(h:NicO w F nb S)(hf:∀k,F k→G k):NicO w G nb S:=by
 obtain⟨mb,V,sv,hn,g⟩:=h;exact⟨mb,V,sv,hn,fun k hk=>hf k (g k hk)⟩
theorem NicO.keep{w w':World}{F G:Nat→Prop}{nb:Nat}{S:NicS}(h:NicO w F nb S)(hm:Mod G w w')(hf:∀k,F k→¬G k):NicO w' F nb S:=by
 obtain⟨mb,V,sv,hn,g⟩:=h;exact⟨mb,V,sv,hn.keep hm fun k hk=>hf k (g k hk),g⟩
theorem NicO.same{w w':World}{F:Nat→Prop}{nb:Nat}{S:NicS}(h:NicO w F nb S)(hm:Below w.heap.size w w'):NicO w' F nb S:=h.keep (G:=fun _=>False) (Mod.of_below hm _) fun _ _ g=>g
end Ni
end Go.Proofs.YtnpicaigdfnmfaaGreat
namespace Go.Proofs.YtnpicaigdfnmfaaGreat.Ni
open Go.RowKit
def newS:NicS:=⟨[],fun _=>[],[],0⟩
theorem lQ{w:World}{k:Nat}{o:Obj}(h:w.heap[k]? =some o):k<w.heap.size:=(Array.getElem?_eq_some_iff.1 h).1
theorem ret_bool{a b:Bool}(h:a=b):Ending.returned (.bool a)=.returned (.bool b):=by rw[h]
theorem ret_ib{k:IntKind}{a b:Int}{c d:Bool}(h:a=b)(h':c=d):Ending.returned (.tuple #[.int k a,.bool c])=.returned (.tuple #[.int k b,.bool d]):=by rw[h,h']
theorem new(w:World):Calls Tryz.prog 141 #[] w fun e w'=>e=.returned (.pointer (some ⟨w.heap.size+1,0,none⟩))∧Nc w' (w.heap.size+1) w.heap.size (fun _=>.slice none 0 0) (.slice none 0 0) newS∧Below w.heap.size w w'∧w'.heap.size=w.heap.size+2:=by
 have hmm:= @run_makeMap Tryz.prog;go_enter func141,ntmps141;go_wp2;go_ret;refine⟨rfl,⟨?_, ?_,fun x=>SlV.nil _ _ _,SlV.nil _ _ _,List.nodup_nil,fun x hx=>by simp[newS] at hx,fun x y k _ h=>by simp[Value.ownBlock] at h,fun x k h=>by simp[Value.ownBlock] at h,fun x=>by simp[Value.ownBlock],by simp[Value.ownBlock],fun x=>by simp[newS],fun k hk=> ?_⟩,by repeat (first|exact Below.refl _ _|refine Below.alloc ?_ (by simp) _),by simp⟩
 ·have:=heap_alloc_new (w.alloc (.map #[] 0)) (.cells #[.map (some w.heap.size),.slice none 0 0,.int .i64 0] 268)
  simpa [newS] using this
 ·exact⟨.map [],0,(World.ownsMap_made w _ _ _).alloc _,fun x=>rfl,rfl,fun x=>by simp[newS,Maps.has]⟩
 ·simp
  rcases hk with rfl|rfl|g|⟨x,g⟩
  ·omega
  ·omega
  ·simp[Value.ownBlock] at g
  ·simp[Value.ownBlock] at g
def mayB(f:ByteArray):Bool:=decide (1≤f.size)&&decide (f.size≤128)
theorem may(f:ByteArray)(hf:f.size<140737488355328)(w:World):Calls Tryz.prog 124 #[.string f] w fun e w'=>e=.returned (.bool (mayB f))∧w=w':=by
 by_cases a:1≤f.size
 ·by_cases b:f.size≤128
  ·go_enter func124,ntmps124;go_wp2;go_ret;exact⟨ret_bool (by unfold mayB;simp[a,b];omega),rfl⟩
  ·go_enter func124,ntmps124;go_wp2;go_ret;exact⟨ret_bool (by unfold mayB;simp[a,b];omega),rfl⟩
 ·go_enter func124,ntmps124;go_wp2;go_ret;exact⟨ret_bool (by unfold mayB;simp[a]),rfl⟩
def portV(f:ByteArray)(j:Nat):Int:=if f.size<24 then 0 else Word.getV (nums (f.extract j (j+2))).reverse
def portB(f:ByteArray):Bool:=decide (24≤f.size)
theorem portV_bd(f:ByteArray)(j:Nat)(hj:j≤22):0≤portV f j∧portV f j<65536:=by
 unfold portV
 split
 ·omega
 ·have h:=Word.getV_bd (nums (f.extract j (j+2))).reverse (Word.reverse_bd (nums_bd _));have hl:(nums (f.extract j (j+2))).reverse.length=2:=by rw[List.length_reverse,nums_length];simp;omega
  rw[hl] at h;omega
theorem port(f:ByteArray)(hf:f.size<140737488355328)(j:Nat)(hj:j≤22)(w:World):Calls Tryz.prog 71 #[.string f,.int .i64 j] w fun e w'=>e=.returned (.tuple #[.int .u16 (portV f j),.bool (portB f)])∧Below w.heap.size w w':=by
 by_cases a:f.size<24
 ·have hV:=Lh (show portV f j=0 by unfold portV;rw[if_pos a]);have hB:=Lh (show portB f=false by unfold portB;exact decide_eq_false (by omega));go_enter func71,ntmps71;go_wp2;go_ret2;exact⟨ret_ib hV.out.symm hB.out.symm,Below.refl _ _⟩
 ·have hbd:=portV_bd f j hj;have hV:portV f j=Word.getV (nums (f.extract j (j+2))).reverse:=by unfold portV;rw[if_neg a]
  have HV:=Lh hV;rw[hV] at hbd;have hB:=Lh (show portB f=true by unfold portB;exact decide_eq_true (by omega));have hz:=Lh (show(f.extract j (j+2)).size=2 by simp;omega);clear hV;generalize hg:f.extract j (j+2)=g at*;have Hg:=Lh hg;clear hg;go_enter func71,ntmps71;go_wp2_with fail;rw[Hg.out];refine(Word.getHigh2 g hz.out _).mono ?_;rintro e w1 ⟨rfl,hb⟩;generalize Word.getV (nums g).reverse=x at*;go_wp2;go_ret2;exact⟨ret_ib HV.out.symm hB.out.symm,hb⟩
variable {w:World} {nb mb:Nat} {V:Int→Value} {sv:Value} {S:NicS}
def nextS(S:NicS)(x:Int):ByteArray:=match S.q x with| []=>ByteArray.empty|f::_=>f
def nextB(S:NicS)(x:Int):Bool:=match S.q x with| []=>false|_::_=>true
theorem rows_some(h:Nc w nb mb V sv S){x:Int}{f:ByteArray}{r:List ByteArray}(hq:S.q x=f::r):∃g off cap,V x=.slice (some ⟨g,off,none⟩) (r.length+1) cap∧w.cell? ⟨g,off,none⟩=some (.string f)∧g<w.heap.size:=by
 have hr:=h.rows x;rw[hq] at hr;rcases hr.2 with⟨h0,_⟩|⟨g,off,cap,cur,hv,hg,hc,hm,hs,ht⟩
 ·simp at h0
 ·refine⟨g,off,cap,hv, ?_,lQ hg⟩;have:=ht 0 (by simp);unfold World.cell?;rw[hg]
  simpa using this
theorem next(h:Nc w nb mb V sv S)(x:Int)(h0:0≤x)(h1:x<65536):Calls Tryz.prog 240 #[.pointer (some ⟨nb,0,none⟩),.int .u16 x] w fun e w'=>e=.returned (.tuple #[.string (nextS S x),.bool (nextB S x)])∧w=w':=by
 have hl:=h.look x h0 h1;have hc:=h.cellMap;have hsm:=h.small x;cases hq:S.q x with
 |nil=>
  have hr:=h.rows x;rw[hq] at hr;obtain⟨a,cap,hv⟩:=hr.form;rw[hv] at hl;have e1:=Lh (show nextS S x=ByteArray.empty by unfold nextS;rw[hq]);have e2:=Lh (show nextB S x=false by unfold nextB;rw[hq]);clear h hv hq hr hsm;go_enter func240,ntmps240;go_wp2;go_ret2;exact⟨by rw[e1.out,e2.out];rfl,rfl⟩
 |cons f r=>
  obtain⟨g,off,cap,hv,hcell,_⟩:=rows_some h hq;rw[hv] at hl;have e1:=Lh (show nextS S x=f by unfold nextS;rw[hq]);have e2:=Lh (show nextB S x=true by unfold nextB;rw[hq]);rw[hq,List.length_cons] at hsm;clear h hv hq;generalize r.length=m at*;go_enter func240,ntmps240;go_wp2;go_ret2;exact⟨by rw[e1.out,e2.out];rfl,rfl⟩
end Go.Proofs.YtnpicaigdfnmfaaGreat.Ni
namespace Go.Proofs.YtnpicaigdfnmfaaGreat.Ni
open Go.RowKit
theorem Nc.nm{w:World}{nb mb:Nat}{V:Int→Value}{sv:Value}{S:NicS}(h:Nc w nb mb V sv S):nb≠mb:=by
 intro e;have:=h.head;obtain⟨D,n,⟨es,clock,hbk,_⟩,_⟩:=h.map;rw[e,hbk] at this;cases this
theorem infoStr:(Tryz.prog.info? 9).map (fun i=>(i.zero,i.size,i.bytes))=some (some (.string ByteArray.empty),1,16):=by kernel_rfl
end Go.Proofs.YtnpicaigdfnmfaaGreat.Ni
namespace Go.Proofs.YtnpicaigdfnmfaaGreat.Ni
open Go.RowKit
def popS(S:NicS)(x:Int):NicS:=match S.q x with| []=>S|_::r=>qSet S x r
theorem popped{w:World}{nb mb:Nat}{V:Int→Value}{sv:Value}{S:NicS}(h:Nc w nb mb V sv S)(x:Int)(h0:0≤x)(h1:x<65536){f:ByteArray}{r:List ByteArray}(hq:S.q x=f::r)(a:Option Addr)(cap:Nat)(hv:V x=.slice a (r.length+1) cap):
  ∃w',(Instr.mapUpdate 266 (.map (some mb)) (.int .u16 x) (sliced a 1 (r.length+1) (r.length+1) 1)).run Tryz.prog w.drew=.ok () w'∧Nc w' nb mb (updQ V x (sliced a 1 (r.length+1) (r.length+1) 1)) sv (qSet S x r)∧Mod (fun k=>k=mb) w w':=by
 have hr:=h.rows x;rw[hq,hv] at hr;obtain⟨p1,p2⟩:=SlV.pop hr;have hsm:=h.small x;rw[hq,List.length_cons] at hsm;have hel:∃d,slcElem (sliced a 1 (r.length+1) (r.length+1) 1)=some (d,[]):=by
  rcases hr.2 with⟨h0,_⟩|⟨g,off,cap,cur,hv',_⟩
  ·simp at h0
  ·simp only[Value.slice.injEq] at hv';obtain⟨rfl,_,_⟩:=hv';unfold sliced
   split
   ·exact⟨_,rfl⟩
   ·exact⟨_,rfl⟩
 obtain⟨w',hrun,hn,hm⟩:=h.store x h0 h1 (w1:=w.drew) (Mod.refl _ _).drew (sliced a 1 (r.length+1) (r.length+1) 1) r (p1.keep fun _ _=>rfl) hel (.inl (p2.trans (by rw[hv]))) (fun k hk=>h.lt k (.inr (.inr (.inr ⟨x,by rw[hv];exact p2▸hk⟩)))) (by omega);exact⟨w',hrun,hn,(Mod.refl _ _).drew.same hm⟩
theorem pop_none{w:World}{nb mb:Nat}{V:Int→Value}{sv:Value}{S:NicS}(h:Nc w nb mb V sv S)(x:Int)(h0:0≤x)(h1:x<65536)(hq:S.q x=[]):
  Calls Tryz.prog 210 #[.pointer (some ⟨nb,0,none⟩),.int .u16 x] w fun e w'=>e=.returned (.tuple #[.string ByteArray.empty,.bool false])∧w=w':=by
 have hn:∀w,Nc w nb mb V sv S→Calls Tryz.prog 240 #[.pointer (some ⟨nb,0,none⟩),.int .u16 x] w fun e w'=>e=.returned (.tuple #[.string ByteArray.empty,.bool false])∧w=w':=fun w h=>by
  have:=next h x h0 h1;unfold nextS nextB at this;rw[hq] at this;exact this
 have H:=Lh h;clear h hq;go_enter func210,ntmps210;go_wp2_with (go_at_call 240;(with_reducible refine(hn _ H.out).mono ?_);rintro e w1 ⟨rfl,rfl⟩);go_ret2;exact⟨rfl,rfl⟩
theorem rows_cap{w:World}{nb mb:Nat}{V:Int→Value}{sv:Value}{S:NicS}(h:Nc w nb mb V sv S){x:Int}{f:ByteArray}{r:List ByteArray}(hq:S.q x=f::r):∃g off cap,V x=.slice (some ⟨g,off,none⟩) (r.length+1) cap∧r.length+1≤cap:=by
 have hr:=h.rows x;rw[hq] at hr;rcases hr.2 with⟨h0,_⟩|⟨g,off,cap,cur,hv,hg,hc,_⟩
 ·simp at h0
 ·exact⟨g,off,cap,hv,hc⟩
theorem pop_one{w:World}{nb mb:Nat}{V:Int→Value}{sv:Value}{S:NicS}(h:Nc w nb mb V sv S)(x:Int)(h0:0≤x)(h1:x<65536){f:ByteArray}(hq:S.q x=f::[]):
  Calls Tryz.prog 210 #[.pointer (some ⟨nb,0,none⟩),.int .u16 x] w fun e w'=>e=.returned (.tuple #[.string f,.bool true])∧∃v,Nc w' nb mb (updQ V x v) sv (qSet S x [])∧v.ownBlock=(V x).ownBlock∧Mod (fun k=>k=mb) w w':=by
 have hn:∀w,Nc w nb mb V sv S→Calls Tryz.prog 240 #[.pointer (some ⟨nb,0,none⟩),.int .u16 x] w fun e w'=>e=.returned (.tuple #[.string f,.bool true])∧w=w':=fun w h=>by
  have:=next h x h0 h1;unfold nextS nextB at this;rw[hq] at this;exact this
 have H:=Lh h;have Hn:=Lh hn;obtain⟨g,off,cap,hv,hcap⟩:=rows_cap h hq;have hlk:=h.look x h0 h1;rw[hv] at hlk;have hc:=h.cellMap;have hsm:=h.small x;rw[hq] at hsm;obtain⟨w2,hst,hn2,hm2⟩:=popped h x h0 h1 hq _ cap hv;have hrr:=h.rows x;rw[hq,hv] at hrr;have Hp:=Lh (SlV.pop hrr).2;have Hv:=Lh hv;have Hn2:=Lh hn2;have Hm2:=Lh hm2;have hcw:w2.cell? ⟨nb,0,none⟩=some (.map (some mb)):=by rw[World.cell?_of_block (w:=w) (hm2.block nb (h.lt nb (.inl rfl)) h.nm)];exact hc
 simp only[List.length_cons,List.length_nil] at hsm hcap hlk hst;clear h hq hn hrr hn2 hm2 hv;have i1:(1:Int)≤(cap:Int):=by omega
 have hsl:sliced (some ⟨g,off,none⟩) 1 (0+1) (0+1) 1=.slice (some ⟨g,off,none⟩) 0 0:=by simp[sliced]
 rw[hsl] at hst;go_enter func210,ntmps210;go_wp2_with (go_at_call 240;(with_reducible refine(Hn.out _ H.out).mono ?_);rintro e w1 ⟨rfl,rfl⟩);go_region
 all_goals go_wp2
 all_goals go_ret2
 all_goals exact⟨rfl,_,Hn2.out,Hp.out.trans (by rw[Hv.out]),Hm2.out⟩
theorem pop_more{w:World}{nb mb:Nat}{V:Int→Value}{sv:Value}{S:NicS}(h:Nc w nb mb V sv S)(x:Int)(h0:0≤x)(h1:x<65536){f f2:ByteArray}{r:List ByteArray}(hq:S.q x=f::f2::r):
  Calls Tryz.prog 210 #[.pointer (some ⟨nb,0,none⟩),.int .u16 x] w fun e w'=>e=.returned (.tuple #[.string f,.bool true])∧∃v,Nc w' nb mb (updQ V x v) sv (qSet S x (f2::r))∧v.ownBlock=(V x).ownBlock∧Mod (fun k=>k=mb) w w':=by
 have hn:∀w,Nc w nb mb V sv S→Calls Tryz.prog 240 #[.pointer (some ⟨nb,0,none⟩),.int .u16 x] w fun e w'=>e=.returned (.tuple #[.string f,.bool true])∧w=w':=fun w h=>by
  have:=next h x h0 h1;unfold nextS nextB at this;rw[hq] at this;exact this
 have H:=Lh h;have Hn:=Lh hn;obtain⟨g,off,cap,hv,hcap⟩:=rows_cap h hq;have hlk:=h.look x h0 h1;rw[hv] at hlk;have hc:=h.cellMap;have hsm:=h.small x;rw[hq] at hsm;obtain⟨w2,hst,hn2,hm2⟩:=popped h x h0 h1 hq _ cap hv;have hrr:=h.rows x;rw[hq,hv] at hrr;have Hp:=Lh (SlV.pop hrr).2;have Hv:=Lh hv;have Hn2:=Lh hn2;have Hm2:=Lh hm2;have hcw:w2.cell? ⟨nb,0,none⟩=some (.map (some mb)):=by rw[World.cell?_of_block (w:=w) (hm2.block nb (h.lt nb (.inl rfl)) h.nm)];exact hc
 simp only[List.length_cons,List.length_nil] at hsm hcap hlk hst;clear h hq hn hrr hn2 hm2 hv;generalize hrl:r.length=m at*;have Hrl:=Lh hrl;clear hrl;have i1:(m:Int)+1+1≤(cap:Int):=by omega
 have i2:(0:Int)≤(m:Int)+1+1:=by omega
 have i3:(1:Int)≤(m:Int)+1+1:=by omega
 have hsl:sliced (some ⟨g,off,none⟩) 1 (m+1+1) (m+1+1) 1=.slice (some ⟨g,off+1,none⟩) (m+1) (m+1):=by simp[sliced,Addr.add]
 rw[hsl] at hst;go_enter func210,ntmps210;go_wp2_with (go_at_call 240;(with_reducible refine(Hn.out _ H.out).mono ?_);rintro e w1 ⟨rfl,rfl⟩);go_region
 all_goals go_wp2
 all_goals go_ret2
 all_goals exact⟨rfl,_,Hn2.out,Hp.out.trans (by rw[Hv.out]),Hm2.out⟩
theorem pop{w:World}{F:Nat→Prop}{nb:Nat}{S:NicS}(h:NicO w F nb S)(x:Int)(h0:0≤x)(h1:x<65536):
  Calls Tryz.prog 210 #[.pointer (some ⟨nb,0,none⟩),.int .u16 x] w fun e w'=>e=.returned (.tuple #[.string (nextS S x),.bool (nextB S x)])∧NicO w' F nb (popS S x)∧Mod F w w':=by
 obtain⟨mb,V,sv,hn,hF⟩:=h;unfold nextS nextB popS;have fin:∀ {w':World} {v:Value} {r:List ByteArray},Nc w' nb mb (updQ V x v) sv (qSet S x r)→v.ownBlock=(V x).ownBlock→Mod (fun k=>k=mb) w w'→NicO w' F nb (qSet S x r)∧Mod F w w':=fun g gb gm=>
  ⟨⟨mb,_,sv,g,fun k hk=>by
   rcases hk with rfl|rfl|g|⟨y,g⟩
   ·exact hF _ (.inl rfl)
   ·exact hF _ (.inr (.inl rfl))
   ·exact hF _ (.inr (.inr (.inl g)))
   ·by_cases e:y=x
    ·subst e;rw[updQ_same,gb] at g;exact hF _ (.inr (.inr (.inr ⟨y,g⟩)))
    ·rw[updQ_other _ _ _ e] at g;exact hF _ (.inr (.inr (.inr ⟨y,g⟩)))⟩,gm.mono fun k _ e=>hF k (.inr (.inl e))⟩
 cases hq:S.q x with
 |nil=>exact(pop_none hn x h0 h1 hq).mono fun e w' ⟨g,g'⟩=>⟨g,g'▸⟨mb,V,sv,hn,hF⟩,g'▸Mod.refl _ _⟩
 |cons f r=>
  cases r with
  |nil=>exact(pop_one hn x h0 h1 hq).mono fun e w' ⟨g,v,g1,g2,g3⟩=>⟨g,fin g1 g2 g3⟩
  |cons f2 r=>exact(pop_more hn x h0 h1 hq).mono fun e w' ⟨g,v,g1,g2,g3⟩=>⟨g,fin g1 g2 g3⟩
end Go.Proofs.YtnpicaigdfnmfaaGreat.Ni
namespace Go.Proofs.YtnpicaigdfnmfaaGreat.Ni
open Go.RowKit
def sendS(S:NicS)(f:ByteArray):NicS:=if mayB f=true then { S with sent:=S.sent++[f] } else S
def sendE(f:ByteArray):Int:=if mayB f=true then 0 else 2
theorem Nc.setSent{w w1:World}{nb mb:Nat}{V:Int→Value}{sv:Value}{S:NicS}(h:Nc w nb mb V sv S)(hm:Mod (fun k=>sv.ownBlock=some k) w w1)(v:Value)(l:List ByteArray)
  (hv:SlV w1 9 1 v l.length (l.map .string)) (hb:v.ownBlock=sv.ownBlock∨∃k,v.ownBlock=some k∧w.heap.size≤k) (hk:∀k,v.ownBlock=some k→k<w1.heap.size):
  Nc (w1.setCell ⟨nb,1,none⟩ v) nb mb V v { S with sent:=l }:=by
 have hne:∀k,k≠nb→(w1.setCell ⟨nb,1,none⟩ v).heap[k]? =w1.heap[k]? :=fun k hk=>Below.heap_setCell _ _ _ _ hk
 have hz:(w1.setCell ⟨nb,1,none⟩ v).heap.size=w1.heap.size:=by simp[World.setCell]
 have hfr:∀k,v.ownBlock=some k→sv.ownBlock=some k∨w.heap.size≤k:=by
  intro k hk';rcases hb with g|⟨k',g,hge⟩
  ·exact .inl (g▸hk')
  ·rw[hk'] at g;cases g;exact .inr hge
 have hnb:=h.lt nb (.inl rfl);have hmb:=h.lt mb (.inr (.inl rfl));have hvm:∀k,v.ownBlock=some k→k≠mb∧k≠nb:=by
  intro k hk';rcases hfr k hk' with g|g
  ·exact⟨fun e=>h.tapart.2 (e▸g),fun e=>h.tapart.1 (e▸g)⟩
  ·omega
 have hs:=hm.size;refine⟨?_, ?_,fun y=>(h.rows y).keep fun g hg=>(hne g fun e=>(h.rapart y).1 (e▸hg)).trans (hm.block g (h.lt g (.inr (.inr (.inr ⟨y,hg⟩)))) fun hx=>h.sapart y g hg hx),hv.keep fun g hg=>hne g (hvm g hg).2,h.nodup,h.range,h.apart,fun y k hy hs'=> ?_,h.rapart,⟨fun e=>(hvm nb e).2 rfl,fun e=>(hvm mb e).1 rfl⟩,h.small,fun k hk'=> ?_⟩
 ·have:=heap_setCell_same w1 nb 1 _ _ v ((hm.block nb hnb h.tapart.1).trans h.head)
  simpa using this
 ·obtain⟨D,n,⟨es,clock,hbk,rest⟩,hv⟩:=h.map;exact⟨D,n,⟨es,clock,((hne mb h.nm.symm).trans (hm.block mb hmb h.tapart.2)).trans hbk,rest⟩,hv⟩
 ·rcases hfr k hs' with g|g
  ·exact h.sapart y k hy g
  ·have:=h.lt k (.inr (.inr (.inr ⟨y,hy⟩)));omega
 ·rw[hz];rcases hk' with rfl|rfl|g|⟨y,g⟩
  ·omega
  ·omega
  ·exact hk k g
  ·have:=h.lt k (.inr (.inr (.inr ⟨y,g⟩)));omega
theorem send_arg{w:World}(nb:Nat)(f:ByteArray)(hf:f.size<140737488355328)(hm:mayB f=false):
  Calls Tryz.prog 239 #[.pointer (some ⟨nb,0,none⟩),.string f] w fun e w'=>e=.returned (.int .i64 2)∧w=w':=by
 have Hm:=Lh hm;clear hm;go_enter func239,ntmps239;go_wp2_with (go_at_call 124;(with_reducible refine(may f hf _).mono ?_);rw[Hm.out];rintro e w1 ⟨rfl,rfl⟩);go_ret;exact⟨rfl,rfl⟩
theorem sent_stored{w w2:World}{nb mb:Nat}{V:Int→Value}{sv:Value}{S:NicS}(h:Nc w nb mb V sv S)(f:ByteArray){n:Nat}{v1:Value}{o:Obj}(q1:SlV w2 9 1 v1 (n+1) (S.sent.map .string++[.string f]))(q2:Mod (fun k=>sv.ownBlock=some k) (w.alloc o) w2)(q3:v1.ownBlock=sv.ownBlock∨∃k,v1.ownBlock=some k∧(w.alloc o).heap.size≤k):
  w2.cell? ⟨nb,1,none⟩=some sv∧w2.frozen? ⟨nb,1,none⟩=false∧Nc (w2.setCell ⟨nb,1,none⟩ v1) nb mb V v1 { S with sent:=S.sent++[f] }∧(v1.ownBlock=sv.ownBlock∨∃k,v1.ownBlock=some k∧w.heap.size≤k)∧Mod (fun k=>k=nb∨sv.ownBlock=some k) w (w2.setCell ⟨nb,1,none⟩ v1):=by
 have hn:n=S.sent.length:=by have:=q1.1;simp at this;omega
 subst hn;have hm:Mod (fun k=>sv.ownBlock=some k) w w2:=((Mod.refl _ _).alloc o).same q2;have q3':v1.ownBlock=sv.ownBlock∨∃k,v1.ownBlock=some k∧w.heap.size≤k:=by
  rcases q3 with g|⟨k,g,hk⟩
  ·exact .inl g
  ·exact .inr ⟨k,g,Nat.le_trans (by simp) hk⟩
 have hb:=hm.block nb (h.lt nb (.inl rfl)) h.tapart.1;refine⟨by rw[World.cell?_of_block (w:=w) hb];exact h.cellSent, ?_,h.setSent hm v1 (S.sent++[f]) (by simpa using q1) q3' (fun k hk=>by obtain⟨g,hg,hlt⟩:=q1.lt (by omega);rw[hk] at hg;cases hg;exact hlt),q3',Mod.setCell (F:=fun k=>k=nb∨sv.ownBlock=some k) (hm.mono fun k _ g=>Or.inr g) ⟨nb,1,none⟩ (.inl (.inl rfl)) _⟩;unfold World.frozen?;rw[hb,h.head]
 simp
theorem send_ok{w:World}{nb mb:Nat}{V:Int→Value}{sv:Value}{S:NicS}(h:Nc w nb mb V sv S)(f:ByteArray)(hf:f.size<140737488355328)(hm:mayB f=true)(hs:S.sent.length<4398046511104):
  Calls Tryz.prog 239 #[.pointer (some ⟨nb,0,none⟩),.string f] w fun e w'=>e=.returned (.int .i64 0)∧∃v,Nc w' nb mb V v { S with sent:=S.sent++[f] }∧(v.ownBlock=sv.ownBlock∨∃k,v.ownBlock=some k∧w.heap.size≤k)∧Mod (fun k=>k=nb∨sv.ownBlock=some k) w w':=by
 obtain⟨i0,hi0,hz0,hz1,hz2⟩:=info_parts infoStr;have Hi:=Lh hi0;have Hz0:=Lh hz0;have Hz1:=Lh hz1;have Hz2:=Lh hz2;clear hi0 hz0 hz1 hz2;have Hm:=Lh hm;have H:=Lh h;have hcs:=h.cellSent;have Hsl:=Lh h.sent;have hnb:=h.lt nb (.inl rfl);have Hgl:Hid (∀g,sv.ownBlock=some g→g<w.heap.size):=fun g hg=>h.lt g (.inr (.inr (.inl hg)))
 clear h hm;generalize hlen:S.sent.length=n at*;have Hlen:=Lh hlen;clear hlen;go_enter func239,ntmps239;go_wp2_with (first|(go_at_call 124;(with_reducible refine(may f hf _).mono ?_);rw[Hm.out];rintro e w1 ⟨rfl,rfl⟩)|(at_builtin;refine wpList_append_slv _ (by rfl) _ _ _ (by rfl) 9 i0 (.string ByteArray.empty) 1 16 Tryz.underlying265 Hi.out Hz0.out Hz1.out Hz2.out rfl (by omega) sv n (S.sent.map .string) (by rfl) (Hsl.out.keep fun g hg=>Below.heap_alloc _ _ _ (Hgl.out g hg)) ⟨w.heap.size,0,none⟩ 1 1 [.string f] (by rfl) (by omega) (by rfl) (World.news_of_block (cs:= #[.string f]) (t:=9) (fr:=(0,0)) (heap_alloc_new w _)) (fun x hx=>by simp at hx;subst hx;rfl) (by unfold maxLen;omega) (by omega) ?_;intro v1 w2 q1 q2 q3;obtain⟨r1,r2,r3⟩:=sent_stored H.out f q1 q2 q3;obtain⟨a1,cap1,hv1⟩:=q1.form;have R3:=Lh r3;rw[hv1] at R3;subst hv1;clear r3 q1 q2 q3));go_ret;exact⟨rfl,_,R3.out.1,R3.out.2⟩
theorem send{w:World}{F:Nat→Prop}{nb:Nat}{S:NicS}(h:NicO w F nb S)(f:ByteArray)(hf:f.size<140737488355328)(hs:S.sent.length<4398046511104):
  Calls Tryz.prog 239 #[.pointer (some ⟨nb,0,none⟩),.string f] w fun e w'=>e=.returned (.int .i64 (sendE f))∧NicO w' (Fr F w) nb (sendS S f)∧Mod F w w':=by
 obtain⟨mb,V,sv,hn,hF⟩:=h;unfold sendE sendS;cases hm:mayB f with
 |false=>exact(send_arg nb f hf hm).mono fun e w' ⟨g,g'⟩=>⟨g,g'▸⟨mb,V,sv,hn,fun k hk=>.inl (hF k hk)⟩,g'▸Mod.refl _ _⟩
 |true=>
  exact(send_ok hn f hf hm hs).mono fun e w' ⟨g,v,g1,g2,g3⟩=>⟨g,⟨mb,V,v,g1,fun k hk=>by
   rcases hk with rfl|rfl|e|⟨y,e⟩
   ·exact .inl (hF _ (.inl rfl))
   ·exact .inl (hF _ (.inr (.inl rfl)))
   ·rcases g2 with g|⟨k',g,hk'⟩
    ·exact .inl (hF _ (.inr (.inr (.inl (g▸e)))))
    ·rw[e] at g;cases g;exact .inr hk'
   ·exact .inl (hF _ (.inr (.inr (.inr ⟨y,e⟩))))⟩,g3.mono fun k _ e=>hF k (e.elim (fun e=>.inl e) fun e=>.inr (.inr (.inl e)))⟩
theorem infoStr':∃i,Tryz.prog.info? 9=some i∧i.zero=some (.string ByteArray.empty)∧i.size=1∧i.bytes=16:=info_parts infoStr
end Go.Proofs.YtnpicaigdfnmfaaGreat.Ni
