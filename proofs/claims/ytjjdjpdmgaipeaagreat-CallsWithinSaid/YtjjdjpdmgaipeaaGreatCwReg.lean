/- Reg, RegT, RspF, Renv, WordRev, WordGet in one text. -/
import Derived.Test.YtjjdjpdmgaipeaaGreatCwBase
import Derived.Deep.RegionHeld3
import Derived.Deep.RegionWith
import Derived.Test.YtjjdjpdmgaipeaaGreatCwPag
import Derived.Test.YtjjdjpdmgaipeaaGreatCwSpcY
import Derived.Test.YtjjdjpdmgaipeaaGreatCwCpuW
import Derived.Test.YtjjdjpdmgaipeaaGreatProg
import Derived.WalkSpells
import Derived.WalkLawsBesides
import Derived.RegionTactic
import Derived.ChangeAlike
import Derived.BigRegion
import Derived.WalkSmall
import Derived.Test.YtjjdjpdmgaipeaaGreatCwSl21
import Derived.LoopTactic
import Derived.Test.YtjjdjpdmgaipeaaGreatCwZa
set_option linter.unusedVariables false
set_option linter.unusedSimpArgs false
set_option maxRecDepth 100000
set_option maxHeartbeats 16000000
open Go.Proofs.Tryz
namespace Go.Proofs.YtjjdjpdmgaipeaaGreat
open Go.RowKit
section
variable {P:Program} {ops:Array Oper} {Q:Exit→Act→World→Prop} {md:Region.Mode} {S:World→Prop} {last:Nat}
def waitsFor(md:Region.Mode)(ops:Array Oper)(last i:Nat):Bool:=match ops[last]? with|some o=>o.after.any fun e=>Region.binds md e&&e.on == i|none=>false
def AnyE(P:Program)(md:Region.Mode)(ops:Array Oper)(Q:Exit→Act→World→Prop)(S:World→Prop)(last:Nat):Nat→Array Bool→Act→World→Prop
 |0,listed,a,w=>Region.ready md ops listed=[]∧Q .normal a w
 |fuel+1,listed,a,w=>
  (Region.ready md ops listed=[]→Q .normal a w)∧
  ∀i∈Region.ready md ops listed,wpOp P ops Q i (fun a' w'=>(i≠last→S w')∧AnyE P md ops Q S last fuel (listed.setIfInBounds i true) a' w') a w
theorem any_of_E:∀(fuel:Nat) (listed:Array Bool) (a:Act) (w:World),AnyE P md ops Q S last fuel listed a w→wpAny P md ops Q fuel listed a w
 |0,_,_,_,h=>h
 |fuel+1,_,_,_,h=>⟨h.1,fun i hi=>wpOp_mono (fun a' w' h'=>any_of_E fuel _ a' w' h'.2) (h.2 i hi)⟩
theorem last_waits{i:Nat}(hw:waitsFor md ops last i=true){listed:Array Bool}(hi:i∈Region.ready md ops listed){j:Nat}(hj:j∈Region.ready md ops listed):j≠last:=by
 rintro rfl;obtain⟨_,oj,hoj,hall⟩:=mem_ready.1 hj;unfold waitsFor at hw;rw[hoj] at hw;simp only[Array.any_eq_true'] at hw;obtain⟨e,he,hb⟩:=hw;simp only[Bool.and_eq_true,beq_iff_eq] at hb;have h1:=hall e he hb.1;have h0:=(mem_ready.1 hi).1;rw[hb.2] at h1;rcases Nat.lt_or_ge i listed.size with h'|h'
 ·simp[h'] at h0 h1;rw[h0] at h1;cases h1
 ·simp[Array.getElem?_eq_none h'] at h1
theorem E_first{i:Nat}{oi:Oper}{v:Value}(hi:ops[i]? =some oi)(hsel:∀(j:Nat) (o:Oper) cs b,ops[j]? =some o→o.op≠ .select cs b)
  (hQ:∀c a w,Q (.panic c) (a.put oi.dst v) w→Q (.panic c) a w) (hwt:waitsFor md ops last i=true):
  ∀(fuel:Nat) (listed:Array Bool) (a:Act) (w:World),
   (∀j oj,ops[j]? =some oj→j≠i→listed.getD j true=false→(∀e∈oj.after,Region.binds md e=true→e.on≠i)→oi.apart ops oj=true)→
   i∈Region.ready md ops listed→YieldsIf P ops S oi v a→S w→
   AnyE P md ops Q S last fuel (listed.setIfInBounds i true) (a.put oi.dst v) w→AnyE P md ops Q S last (fuel+1) listed a w:=by
 intro fuel
 induction fuel with
 |zero=>
  intro listed a w _ hr hy hS H;refine⟨fun h=>(by rw[h] at hr;cases hr),fun j hj=> ?_⟩
  by_cases hji:j=i
  ·subst hji;exact hy.wpOp hi hS ⟨fun _=>hS,H⟩
  ·have:=ready_mono hj hji;rw[H.1] at this;cases this
 |succ fuel ih=>
  intro listed a w hfree hr hy hS H;refine⟨fun h=>(by rw[h] at hr;cases hr),fun j hj=> ?_⟩
  by_cases hji:j=i
  ·subst hji;exact hy.wpOp hi hS ⟨fun _=>hS,H⟩
  ·have hjl:=last_waits hwt hr hj;have h1:=H.2 j (ready_mono hj hji);obtain⟨hjun,oj,hoj,hall⟩:=mem_ready.1 hj;have hnot:∀e∈oj.after,Region.binds md e=true→e.on≠i:=fun e he hb heq=>by
    have h1:=hall e he hb;have h0:=(mem_ready.1 hr).1;rw[heq] at h1;rcases Nat.lt_or_ge i listed.size with h'|h'
    ·simp[h'] at h0 h1;rw[h0] at h1;cases h1
    ·simp[Array.getElem?_eq_none h'] at h1
   have h2:=wpOp_putIf hoj (hfree j oj hoj hji hjun hnot) (fun cs b=>hsel i oi cs b hi) (fun cs b=>hsel j oj cs b hoj) hQ hy h1;have hfree':∀k ok,ops[k]? =some ok→k≠i→(listed.setIfInBounds j true).getD k true=false→
     (∀e∈ok.after,Region.binds md e=true→e.on≠i)→oi.apart ops ok=true:=fun k ok hk hki hun hno=>by
    refine hfree k ok hk hki ?_ hno
    by_cases hjk:j=k
    ·subst hjk;exact hjun
    ·rw[getD_set_ne true hjk] at hun;exact hun
   refine wpOp_mono (fun a' w' h3=>⟨h3.2.1,ih (listed.setIfInBounds j true) a' w' hfree' (ready_mono hr (Ne.symm hji)) h3.1 (h3.2.1 hjl) ?_⟩) h2;rw[Array.setIfInBounds_comm _ _ hji];exact h3.2.2
theorem E_take{i:Nat}{oi:Oper}{v:Value}{fuel:Nat}{listed:Array Bool}{a:Act}{w:World}(hi:ops[i]? =some oi)(hwt:waitsFor md ops last i=true)
  (hs:Region.noSelect ops=true) (hf:Region.free md ops listed i=true) (hr:(Region.ready md ops listed).contains i=true)
  (hQ:∀c a w,Q (.panic c) (a.put oi.dst v) w→Q (.panic c) a w) (hy:YieldsIf P ops S oi v a) (hS:S w)
  (h:AnyE P md ops Q S last fuel (listed.setIfInBounds i true) (a.put oi.dst v) w):AnyE P md ops Q S last (fuel+1) listed a w:=
 E_first hi (Region.noSelect_spec hs) hQ hwt fuel listed a w (Region.free_spec hi hf) (by simpa using hr) hy hS h
theorem E_step{i:Nat}{o:Oper}{fuel:Nat}{listed:Array Bool}{a:Act}{w:World}(hr:Region.ready md ops listed=[i])(ho:ops[i]? =some o)
  (h:∀K':Act→World→Prop,Shut (∀a w,(i≠last→S w)→((i≠last→S w)→AnyE P md ops Q S last fuel (listed.setIfInBounds i true) a w)→K' a w)→if Region.wanted o (yielded ops a.tmps)=true then Oper.wp P o a w K' Q else K' (a.put o.dst undef) w):
  AnyE P md ops Q S last (fuel+1) listed a w:=by
 refine⟨fun h0=>(by rw[h0] at hr;cases hr),fun j hj=> ?_⟩;rw[hr,List.mem_singleton] at hj;subst hj;exact wpOp_step ho (fun K' hK=>h K' (fun a w hS hW=>hK a w ⟨hS,hW hS⟩))
theorem E_done{listed:Array Bool}{a:Act}{w:World}(hr:Region.ready md ops listed=[])(h:Q .normal a w):∀fuel,AnyE P md ops Q S last fuel listed a w
 |0=>⟨hr,h⟩
 |_+1=>⟨fun _=>h,by rw[hr];simp⟩
theorem wp_region_E{id:Nat}{a:Act}{w:World}(S:World→Prop)(last:Nat)(hm:P.follows .mixedOrders=true)
  (h:AnyE P .any ops Q S last ops.size (Array.replicate ops.size false) a w.drew):(Code.region id ops true).wp P Q a w:=
 wp_region_any hm (any_of_E _ _ _ _ h)
end
section
variable {P:Program} {Q:Exit→Act→World→Prop} {md:Region.Mode} {S:World→Prop}
theorem T{l:List Oper}{oi:Oper}{v:Value}{fuel:Nat}{listed:Array Bool}{a a':Act}{w:World}(i:Nat)(hS:S w)
  (h:wpAnyH P md l.toArray Q S fuel (listed.setIfInBounds i true) a' w)
  (hi:l[i]? =some oi:=by rfl) (hs:Region.noSelect l.toArray=true:=by kernel_rfl) (hf:Region.free md l.toArray listed i=true:=by kernel_rfl) (hr:(Region.ready md l.toArray listed).contains i=true:=by kernel_rfl)
  (hw:Region.wanted oi (yielded l.toArray a.tmps)=true:=by rfl)
  (hy:∀W,S W→(execOp a.eval oi).run P W=.ok (.value v) W:=by intro W hW;(repeat (obtain⟨_,hW⟩:=hW));go_simp;try with_reducible rfl)
  (hQ:∀c a w,Q (.panic c) (a.put oi.dst v) w→Q (.panic c) a w:=by exact fun _ _ _ h=>h)
  (ha:a.put oi.dst v=a':=by simp only[Act.put,Za,Zb,Zc,Zd,Ze,Zf];rfl):wpAnyH P md l.toArray Q S (fuel+1) listed a w:=by
 subst ha;exact wpAnyH_take (by rw[List.getElem?_toArray];exact hi) hs hf hr hQ (Or.inl ⟨hw,hy⟩) hS h
theorem U{l:List Oper}{o:Oper}{fuel:Nat}{listed:Array Bool}{a:Act}{w:World}(i:Nat)
  (h:∀K':Act→World→Prop,Shut (∀a w,S w→(S w→wpAnyH P md l.toArray Q S fuel (listed.setIfInBounds i true) a w)→K' a w)→if Region.wanted o (yielded l.toArray a.tmps)=true then Oper.wp P o a w K' Q else K' (a.put o.dst undef) w)
  (hr:Region.ready md l.toArray listed=[i]:=by kernel_rfl) (ho:l[i]? =some o:=by rfl):
  wpAnyH P md l.toArray Q S (fuel+1) listed a w:=
 wpAnyH_ready hr (by simp) (AllReadyH.cons (by rw[List.getElem?_toArray];exact ho) h AllReadyH.nil)
theorem V{l:List Oper}{fuel:Nat}{listed:Array Bool}{a a':Act}{w:World}{K':Act→World→Prop}(hK:Shut (∀a w,S w→(S w→wpAnyH P md l.toArray Q S fuel listed a w)→K' a w))(hS:S w)
  (h:wpAnyH P md l.toArray Q S fuel listed a' w) (ha:a=a':=by first|(simp only[Act.put,Za,Zb,Zc,Zd,Ze,Zf];rfl)|rfl):K' a w:=by
 subst ha;exact hK.out _ _ hS fun _=>h
theorem B{l:List Oper}{id:Nat}{a:Act}{w:World}(S:World→Prop)(hS:S w.drew)
  (h:∀w',w'=w.drew→S w'→wpAnyH P .any l.toArray Q S l.toArray.size (Array.replicate l.toArray.size false) a w') (hm:P.follows .mixedOrders=true:=by kernel_rfl):(Code.region id l.toArray true).wp P Q a w:=
 wp_region_held hm (h _ rfl hS)
end
section
variable {P:Program} {Q:Exit→Act→World→Prop} {md:Region.Mode} {S:World→Prop} {last:Nat}
theorem LT{l:List Oper}{oi:Oper}{v:Value}{fuel:Nat}{listed:Array Bool}{a a':Act}{w:World}(i:Nat)(hS:S w)
  (h:AnyE P md l.toArray Q S last fuel (listed.setIfInBounds i true) a' w)
  (hi:l[i]? =some oi:=by rfl) (hwt:waitsFor md l.toArray last i=true:=by kernel_rfl) (hs:Region.noSelect l.toArray=true:=by kernel_rfl) (hf:Region.free md l.toArray listed i=true:=by kernel_rfl) (hr:(Region.ready md l.toArray listed).contains i=true:=by kernel_rfl)
  (hw:Region.wanted oi (yielded l.toArray a.tmps)=true:=by rfl)
  (hy:∀W,S W→(execOp a.eval oi).run P W=.ok (.value v) W:=by intro W hW;(repeat (obtain⟨_,hW⟩:=hW));go_simp;try with_reducible rfl)
  (hQ:∀c a w,Q (.panic c) (a.put oi.dst v) w→Q (.panic c) a w:=by exact fun _ _ _ h=>h)
  (ha:a.put oi.dst v=a':=by simp only[Act.put,Za,Zb,Zc,Zd,Ze,Zf];rfl):AnyE P md l.toArray Q S last (fuel+1) listed a w:=by
 subst ha;exact E_take (by rw[List.getElem?_toArray];exact hi) hwt hs hf hr hQ (Or.inl ⟨hw,hy⟩) hS h
theorem LU{l:List Oper}{o:Oper}{fuel:Nat}{listed:Array Bool}{a:Act}{w:World}(i:Nat)
  (h:∀K':Act→World→Prop,Shut (∀a w,(i≠last→S w)→((i≠last→S w)→AnyE P md l.toArray Q S last fuel (listed.setIfInBounds i true) a w)→K' a w)→if Region.wanted o (yielded l.toArray a.tmps)=true then Oper.wp P o a w K' Q else K' (a.put o.dst undef) w)
  (hr:Region.ready md l.toArray listed=[i]:=by kernel_rfl) (ho:l[i]? =some o:=by rfl):
  AnyE P md l.toArray Q S last (fuel+1) listed a w:=
 E_step hr (by rw[List.getElem?_toArray];exact ho) h
theorem LV{l:List Oper}{fuel i:Nat}{listed:Array Bool}{a a':Act}{w:World}{K':Act→World→Prop}(hK:Shut (∀a w,(i≠last→S w)→((i≠last→S w)→AnyE P md l.toArray Q S last fuel listed a w)→K' a w))(hS:i≠last→S w)
  (h:AnyE P md l.toArray Q S last fuel listed a' w) (ha:a=a':=by first|(simp only[Act.put,Za,Zb,Zc,Zd,Ze,Zf];rfl)|rfl):K' a w:=by
 subst ha;exact hK.out _ _ hS fun _=>h
theorem LB{l:List Oper}{id:Nat}{a:Act}{w:World}(S:World→Prop)(last:Nat)(hS:S w.drew)
  (h:∀w',w'=w.drew→S w'→AnyE P .any l.toArray Q S last l.toArray.size (Array.replicate l.toArray.size false) a w') (hm:P.follows .mixedOrders=true:=by kernel_rfl):(Code.region id l.toArray true).wp P Q a w:=
 wp_region_E S last hm (h _ rfl hS)
end
theorem setCell_same{w:World}{b i:Nat}{cs:Array Value}{e:TypeId}{f:Nat×Nat}{v:Value}(h:w.heap[b]? =some (.cells cs e f))(hv:cs[i]? =some v):w.setCell ⟨b,i,none⟩ v=w:=by
 have:(w.heap.modify b fun| .cells c elem frozen=>.cells (if(none:Option Nat).isSome then c else c.setIfInBounds i v) elem frozen|o=>o)=w.heap:=by
  apply Array.ext_getElem?
  intro k;rw[Array.getElem?_modify]
  split
  ·rename_i q
   subst q;rw[h];obtain⟨hi,hv'⟩:=Array.getElem?_eq_some_iff.1 hv;have:cs.setIfInBounds i v=cs:=by
    rw[Array.setIfInBounds,dif_pos hi,←hv'];exact Array.set_getElem_self hi
   simp[this]
  ·rfl
 show { w with heap:=_ }=w
 cases w;exact congrArg (fun x=>World.mk x _ _ _ _) this
def rcores(R:List Rp):List (Int×Int×List Int):=cores (rpgs R)
theorem rcores_snoc(l:List Rp)(q:Rp):rcores (l++[q])=rcores l++[q.pg.core]:=by
 unfold rcores cores rpgs;rw[List.map_append,List.map_append];rfl
theorem up_of_cores{A B:List Pg}(h:cores A=cores B)(hB:B.Pairwise fun p q=>p.addr<q.addr):A.Pairwise fun p q=>p.addr<q.addr:=by
 have e:A.map (·.addr)=B.map (·.addr):=by
  have:=congrArg (List.map Prod.fst) h;unfold cores at this;rw[List.map_map,List.map_map] at this;exact this
 have h1:(B.map (·.addr)).Pairwise (·<·):=by rw[List.pairwise_map];exact hB
 rw[←e,List.pairwise_map] at h1;exact h1
namespace Rs
theorem cell_at1(W:World)(a:Obj)(x:Value)(t:TypeId):∀j u,[x][j]? =some u→((W.alloc a).alloc (.cells #[x] t)).cell? ((⟨W.heap.size+1,0,none⟩:Addr).add j)=some u:=by
 have:=cell_one_new (W.alloc a) x t
 simpa using this
def ccRel(w:World)(R:List Rp)(cb:Nat)(vi:Value)(wr:World):Prop:=
 ∃(i:Nat) (lvc:Value) (C:List Rp),vi=.int .i64 i∧i≤R.length∧C.length=i∧Rsp wr cb lvc C∧rcores C=rcores (R.take i)∧wr.ownsRow w.heap.size 306 1 lvc i (C.map Rp.ptr)∧(∀k,Rsp.foot cb lvc C k→w.heap.size≤k)∧Below w.heap.size w wr
def RCopyPost(w:World)(R:List Rp)(e:Ending)(w':World):Prop:=
 ∃(cb:Nat) (lvc:Value) (C:List Rp),e=.returned (.pointer (some ⟨cb,0,none⟩))∧Rsp w' cb lvc C∧rcores C=rcores R∧(∀k,Rsp.foot cb lvc C k→w.heap.size≤k)∧Below w.heap.size w w'
theorem copy_step{w wr w1 w3 w4:World}{R:List Rp}{cb i:Nat}{lvc v4:Value}{C:List Rp}{g1 cap1:Nat}{p:Rp}
  (hp:R[i]? =some p) (hpr:RPage wr p) (hsp:Rsp wr cb lvc C) (hCl:C.length=i) (hco:rcores C=rcores (R.take i)) (hown:wr.ownsRow w.heap.size 306 1 lvc i (C.map Rp.ptr)) (hft:∀k,Rsp.foot cb lvc C k→w.heap.size≤k) (hbw:Below w.heap.size w wr)
  (hup:(rpgs R).Pairwise fun p q=>p.addr<q.addr)
  (h1:w1.ownsRow wr.heap.size 5 1 (.slice (some ⟨g1,0,none⟩) 256 cap1) 256 (p.pg.bytes.map (Value.int .u8))) (hb1:Below wr.heap.size wr w1)
  (hb3:Below w1.heap.size w1 w3) (hq:w3.heap[w1.heap.size]? =some (.cells #[.int .u32 p.pg.addr,.int .u8 p.pg.perm,.slice (some ⟨g1,0,none⟩) 256 cap1] 305 (0,0)))
  (h4:w4.ownsRow w.heap.size 306 1 v4 (i+1) (C.map Rp.ptr++[.pointer (some ⟨w1.heap.size,0,none⟩)])) (hg4:w3.grownBy w4 lvc.ownBlock):
  ccRel w R cb (.int .i64 (i+1)) (w4.setCell ⟨cb,0,none⟩ v4):=by
 obtain⟨hi,hpe⟩:=List.getElem?_eq_some_iff.1 hp;obtain⟨hl1,h1r⟩:=h1;rcases h1r with⟨h1r,_⟩|⟨g,c,cur,he,hgb,hgh,hc1,hc2,hcs,hct⟩
 ·cases h1r
 simp only[Value.slice.injEq,Option.some.injEq,Addr.mk.injEq,and_true,true_and] at he;obtain⟨rfl,rfl⟩:=he;have s1:=hb1.size;have s3:=hb3.size;have hg1l:g1<w1.heap.size:=lt_of_block hgh;have s4:=hg4.size;have hlv:∀k,lvc.ownBlock=some k→k<wr.heap.size:=fun k hk=>(hown.lt k hk).2
 have hb13:Below wr.heap.size wr w3:=hb1.trans (hb3.mono s1);have hold:∀k,k<wr.heap.size→lvc.ownBlock≠some k→w4.heap[k]? =wr.heap[k]? :=fun k hk hne=>(hg4.block k (by omega) (by intro e;exact hne e.symm)).trans (hb13.block k hk)
 have hok:=hpr.ok;obtain⟨q,hqd⟩:∃q:Rp,q=⟨⟨p.pg.addr,w1.heap.size,p.pg.perm,p.pg.bytes⟩,g1,cap1⟩:=⟨_,rfl⟩;have hqp:RPage w4 q:=by
  have k1:w4.heap[w1.heap.size]? =w3.heap[w1.heap.size]? :=hg4.block _ (lt_of_block hq) (by intro e;have:=hlv _ e.symm;omega);have k2:w4.heap[g1]? =w1.heap[g1]? :=(hg4.block _ (by omega) (by intro e;have:=hlv _ e.symm;omega)).trans (hb3.block _ hg1l);rw[hqd];refine⟨k1.trans hq,⟨cur,k2.trans hgh,by simpa using hcs,fun j hj=> ?_⟩,hc1,hc2,⟨hok.a0,hok.a1,hok.a2,hok.p0,hok.p1,hok.len,hok.bd⟩⟩;have h5:(cur.toList.take (256*1))[j]? =(p.pg.bytes.map (Value.int .u8))[j]? :=by rw[hct]
  rw[List.getElem?_take_of_lt (by omega),List.getElem?_map] at h5;have hl:=hok.len;have hcl:cur.toList.length=cur.size:=Array.length_toList ..;rw[Zg (by omega)] at h5;rw[Array.getElem?_eq_getElem (by omega)]
  simpa [List.getD,Zg (show j<p.pg.bytes.length by omega)] using h5
 have hold2:∀k,(∃x,x∈C∧(k=x.pg.blk∨k=x.bb))∨k=cb→w4.heap[k]? =wr.heap[k]? :=by
  rintro k (⟨x,hx,hk⟩|rfl)
  ·have hxp:=hsp.pages x hx;obtain⟨cu,hcu,_⟩:=hxp.data;rcases hk with rfl|rfl
   ·exact hold _ hxp.lt1 (own_ne hown hxp.page (by decide))
   ·exact hold _ hxp.lt2 (own_ne hown hcu (by decide))
  ·exact hold _ (lt_of_block hsp.head) (own_ne hown hsp.head (by decide))
 have hcore:rcores (C++[q])=rcores (R.take (i+1)):=by
  rw[rcores_snoc,hco,List.take_succ_eq_append_getElem hi,rcores_snoc,hpe,hqd];rfl
 have hrow4:w4.ownsRow w.heap.size 306 1 v4 (C++[q]).length ((C++[q]).map Rp.ptr):=by
  rw[List.length_append,hCl,List.map_append,hqd];exact h4
 have hsp4:Rsp (w4.setCell ⟨cb,0,none⟩ v4) cb v4 (C++[q]):=by
  have hhead:w4.heap[cb]? =_:=(hold2 cb (.inr rfl)).trans hsp.head;refine⟨?_, ?_, ?_, ?_, ?_⟩
  ·have:=heap_setCell_same w4 cb 0 _ _ v4 hhead
   simpa using this
  ·have hz:w4.ownsRow 0 306 1 v4 (C++[q]).length ((C++[q]).map Rp.ptr):=by
    obtain⟨hl,g⟩:=hrow4;refine⟨hl,g.imp id ?_⟩;rintro⟨b,cap,cur,k1,k2,k3⟩;exact⟨b,cap,cur,k1,Nat.zero_le _,k3⟩
   exact row_keep hz fun k hk=>Below.heap_setCell _ _ _ _ fun e=>own_ne hrow4 hhead (by decide) (by rw[←(show k=cb from e)];exact hk)
  ·intro x hx;have hx4:RPage w4 x:=by
    rcases List.mem_append.1 hx with hx|hx
    ·exact(hsp.pages x hx).keep (hold2 _ (.inl ⟨x,hx,.inl rfl⟩)) (hold2 _ (.inl ⟨x,hx,.inr rfl⟩))
    ·rw[List.mem_singleton.1 hx];exact hqp
   refine hx4.keep (Below.heap_setCell _ _ _ _ fun e=> ?_) (Below.heap_setCell _ _ _ _ fun e=> ?_)
   ·have:=hx4.page;rw[show x.pg.blk=cb from e,hhead] at this;simp at this
   ·obtain⟨cu,this,_⟩:=hx4.data;rw[show x.bb=cb from e,hhead] at this;simp at this
  ·refine up_of_cores (B:=rpgs (R.take (i+1))) hcore ?_;unfold rpgs at hup⊢;rw[List.map_take];exact hup.sublist (List.take_sublist _ _)
  ·refine List.pairwise_append.2 ⟨hsp.bbs,List.pairwise_singleton _ _,fun x hx y hy=> ?_⟩;rw[List.mem_singleton.1 hy,hqd];have:=(hsp.pages x hx).lt2
   show x.bb≠g1
   omega
 have hb4:Below w.heap.size w w4:=own_below (hbw.trans (hb13.mono hbw.size)) (by have:=hbw.size;omega) (row_keep (W:=wr) hown fun k hk=>hb13.block k (hlv k hk)) hg4;refine⟨i+1,v4,C++[q],by simp,by omega,by rw[List.length_append,hCl];rfl,hsp4,hcore, ?_, ?_,hb4.setCell (hft cb (.inl rfl)) _⟩
 ·have hhead:w4.heap[cb]? =_:=(hold2 cb (.inr rfl)).trans hsp.head;have:=hrow4;rw[List.length_append,hCl] at this;exact row_keep this fun k hk=>Below.heap_setCell _ _ _ _ fun e=>own_ne hrow4 hhead (by decide) (by rw[←(show k=cb from e)];exact hk)
 ·rintro k (g|g|⟨x,hx,g⟩)
  ·exact hft k (.inl g)
  ·exact(h4.lt k g).1
  ·rcases List.mem_append.1 hx with hx|hx
   ·exact hft k (.inr (.inr ⟨x,hx,g⟩))
   ·have:=hbw.size;rw[List.mem_singleton.1 hx,hqd] at g;rcases g with g|g
    ·have:k=w1.heap.size:=g;omega
    ·have:k=g1:=g;omega
theorem copy{w:World}{rb:Nat}{lv:Value}{R:List Rp}(h:Rsp w rb lv R):Calls Tryz.prog 183 #[.pointer (some ⟨rb,0,none⟩)] w (RCopyPost w R):=by
 have hln:=h.len;obtain⟨i0,hi0,hz0,hz1,hz2⟩:=info_parts infoPg;have Hi:=Lh hi0;have Hz0:=Lh hz0;have Hz1:=Lh hz1;have Hz2:=Lh hz2;obtain⟨i1,hi0,hz0,hz1,hz2⟩:=info_parts Sp.infoU8;have Ki:=Lh hi0;have Kz0:=Lh hz0;have Kz1:=Lh hz1;have Kz2:=Lh hz2;obtain⟨n,hn⟩:∃n,R.length=n:=⟨_,rfl⟩;have Hn:=Lh hn;rw[hn] at hln;have H:=Lh h;obtain⟨a,cap,hlv,hrow,_⟩:=h.row;have Hrow:=Lh hrow;have hc0:=h.cellHead;rw[hlv,hn] at hc0;have Hlv:=Lh hlv;have Hc0:=Lh hc0;have hrb:rb<w.heap.size:=lt_of_block h.head;clear h hi0 hz0 hz1 hz2 hn hrow hc0 hlv;go_enter func183,ntmps183;go_wp2;go_loopw [4] (fun vi wr=>ccRel w R w.heap.size vi wr) (fun vi _=>n - (intOf vi).toNat)
 case atStart=>exact⟨0,.slice none 0 0,[],by go_num,Nat.zero_le _,rfl,rsp_nil (by simpa using heap_alloc_new w _),rfl,World.ownsRow_nil _ _ _ _,fun k hk=>by rcases hk with rfl|hk|⟨q,hq,_⟩<;>first|exact Nat.le_refl _|cases hk|simp at hq,(Below.refl _ _).alloc (Nat.le_refl _) _⟩
 case round=>
  obtain⟨i,lvc,C,rfl,hi,hCl,hsp,hco,hown,hft,hbw⟩:=hrel;rw[Hn.out] at hi;have hsz:=hbw.size;have hc:wr.cell? ⟨rb,0,none⟩=some (.slice a n cap):=(hbw.cell hrb).trans Hc0.out;have HB:=Lh hbw;have HS:=Lh (H.out.below hbw fun k hk=>H.out.lt hk);have Ho:=Lh hown;have Hft:=Lh hft;have HC:=Lh hsp;have Hco:=Lh hco;have HCl:=Lh hCl;clear hco hCl
  by_cases hin:i<n
  ·have hin2:i<R.length:=by rw[Hn.out];exact hin
   obtain⟨g,rfl,hcell⟩:=Hrow.out (by rw[Hn.out];omega);have hci0:w.cell? ⟨g,i,none⟩=some (R[i]).ptr:=hcell i _ (Zg hin2);have hg:g<w.heap.size:=H.out.lt (.inr (.inl (by rw[Hlv.out];rfl)));have hci:wr.cell? ⟨g,i,none⟩=some (R[i]).ptr:=(hbw.cell hg).trans hci0;have hpg:=HS.out.pages R[i] (List.getElem_mem hin2);obtain⟨c0,c1,c2⟩:=hpg.cells;have hcc:=hsp.cellHead;unfold Rp.ptr at hci;have Hcs:Hid (∀k,Rsp.foot rb lv R k→k<w.heap.size):=Lh fun k hk=>H.out.lt hk
   have hbl:=hpg.lt2;have hpl:=hpg.lt1;have hcbl:w.heap.size<wr.heap.size:=lt_of_block hsp.head;have hol:=hpg.ok.len;have hby:∀W,Below wr.heap.size wr W→∀j u,(R[i].pg.bytes.map (Value.int .u8))[j]? =some u→W.cell? ((⟨R[i].bb,0,none⟩:Addr).add j)=some u:=by
    intro W hW j u hj;have hjl:j<256:=by have g1:=(List.getElem?_eq_some_iff.1 hj).1;rw[List.length_map] at g1;omega
    rw[show(⟨R[i].bb,0,none⟩:Addr).add j=⟨R[i].bb,j,none⟩ by simp[Addr.add]<;>omega,hW.cell (p:=⟨R[i].bb,j,none⟩) hbl,hpg.byte j hjl,←hj];simp[List.getD,Zg (show j<R[i].pg.bytes.length by omega)]
   have Hby:=Lh hby;have Hpg:=Lh hpg;have Hri:=Lh (show R[i]? =some R[i] from Zg hin2);have hcl1:=lt_of_block hpg.page;clear hown hbw hpg hcell hci0 hsp hft hby;generalize hpp:R[i]=p at*;clear hpp;have Hup:=Lh H.out.up;have hlen8:(p.pg.bytes.map (Value.int .u8)).length=256:=by rw[List.length_map,hol]
   go_wp2;have HS7:Hid (∀W,Below wr.heap.size wr W→W.cell? ⟨w.heap.size,0,none⟩=some lvc∧W.cell? ⟨rb,0,none⟩=some (.slice (some ⟨g,0,none⟩) n cap)∧W.cell? ⟨g,i,none⟩=some (.pointer (some ⟨p.pg.blk,0,none⟩))∧W.cell? ⟨p.pg.blk,0,none⟩=some (.int .u32 p.pg.addr)∧W.cell? ⟨p.pg.blk,1,none⟩=some (.int .u8 p.pg.perm)∧W.cell? ⟨p.pg.blk,2,none⟩=some (.slice (some ⟨p.bb,0,none⟩) 256 p.cap)):=
    Lh fun W hW=>⟨(hW.cell (p:=⟨w.heap.size,0,none⟩) hcbl).trans hcc,(hW.cell (p:=⟨rb,0,none⟩) (Nat.lt_of_lt_of_le hrb hsz)).trans hc,(hW.cell (p:=⟨g,i,none⟩) (Nat.lt_of_lt_of_le hg hsz)).trans hci,(hW.cell (p:=⟨p.pg.blk,0,none⟩) hpl).trans c0,(hW.cell (p:=⟨p.pg.blk,1,none⟩) hpl).trans c1,(hW.cell (p:=⟨p.pg.blk,2,none⟩) hpl).trans c2⟩
   have Hnb:Hid (lvc.ownBlock≠some w.heap.size):=Lh (own_ne Ho.out HC.out.head (by decide));have Hfz:Hid (wr.frozen? ⟨w.heap.size,0,none⟩=false):=Lh (by have:=HC.out.head;unfold World.frozen?;rw[this];rfl);have Hne:Hid (lvc.ownBlock≠some p.pg.blk∧lvc.ownBlock≠some rb∧lvc.ownBlock≠some g∧p.pg.blk≠w.heap.size):=Lh ⟨own_ne Ho.out Hpg.out.page (by decide),fun e=>by have:=(Ho.out.lt _ e).1;omega,fun e=>by have:=(Ho.out.lt _ e).1;omega,by
    have:=(Hcs.out p.pg.blk (.inr (.inr ⟨p,List.mem_of_getElem? Hri.out,.inl rfl⟩)));omega⟩
   have Hkeep:Hid (∀W:World,(∀k,k<wr.heap.size→lvc.ownBlock≠some k→W.heap[k]? =wr.heap[k]?)→W.cell? ⟨rb,0,none⟩=some (.slice (some ⟨g,0,none⟩) n cap)∧W.cell? ⟨g,i,none⟩=some (.pointer (some ⟨p.pg.blk,0,none⟩))∧W.cell? ⟨p.pg.blk,0,none⟩=some (.int .u32 p.pg.addr)∧W.cell? ⟨p.pg.blk,1,none⟩=some (.int .u8 p.pg.perm)∧W.cell? ⟨p.pg.blk,2,none⟩=some (.slice (some ⟨p.bb,0,none⟩) 256 p.cap)):=
    Lh fun W hW=>⟨(World.cell?_of_block (w:=wr) (hW rb (by omega) Hne.out.2.1)).trans hc,(World.cell?_of_block (w:=wr) (hW g (by omega) Hne.out.2.2.1)).trans hci,(World.cell?_of_block (w:=wr) (hW _ hpl Hne.out.1)).trans c0,(World.cell?_of_block (w:=wr) (hW _ hpl Hne.out.1)).trans c1,(World.cell?_of_block (w:=wr) (hW _ hpl Hne.out.1)).trans c2⟩
   refine wp_region_E (fun w'=>w'.cell? ⟨w.heap.size,0,none⟩=some lvc∧w'.cell? ⟨rb,0,none⟩=some (.slice (some ⟨g,0,none⟩) n cap)∧w'.cell? ⟨g,i,none⟩=some (.pointer (some ⟨p.pg.blk,0,none⟩))∧w'.cell? ⟨p.pg.blk,0,none⟩=some (.int .u32 p.pg.addr)∧w'.cell? ⟨p.pg.blk,1,none⟩=some (.int .u8 p.pg.perm)∧w'.cell? ⟨p.pg.blk,2,none⟩=some (.slice (some ⟨p.bb,0,none⟩) 256 p.cap)) 42 (by kernel_rfl) ?_;have h0:=HS7.out _ (Below.refl _ wr).drew;refine LT 0 h0 ?_;refine LT 1 h0 ?_;refine LT 2 h0 ?_;refine LT 3 h0 ?_;refine LT 4 h0 ?_;refine LT 5 h0 ?_;refine LT 6 h0 ?_;refine LT 7 h0 ?_;refine LT 8 h0 ?_;refine LT 9 h0 ?_;refine LT 10 h0 ?_;refine LT 11 h0 ?_;refine LT 12 h0 ?_;refine LT 13 h0 ?_;refine LT 14 h0 ?_;refine LT 15 h0 ?_;refine LT 16 h0 ?_;refine LT 17 h0 ?_;refine LT 18 h0 ?_;refine LT 19 h0 ?_;refine LT 20 h0 ?_;refine LT 21 h0 ?_;refine LT 22 h0 ?_;refine LT 23 h0 ?_;refine LT 24 h0 ?_;refine LT 25 h0 ?_;refine LT 26 h0 ?_;refine LT 27 h0 ?_;refine LT 28 h0 ?_;refine LT 29 h0 ?_;refine LT 30 h0 ?_;refine LT 31 h0 ?_;refine LT 32 h0 ?_;refine LT 33 h0 ?_;refine LT 34 h0 ?_;refine LU 35 fun K hK=> ?_
   refine step_append_lies _ (by rfl) _ _ _ (by rfl) wr.heap.size 5 i1 (.int .u8 0) 1 1 Tryz.underlying30 Ki.out Kz0.out Kz1.out Kz2.out rfl (by omega) (.slice none 0 0) 0 [] (by rfl) (World.ownsRow_nil _ _ _ _) ⟨p.bb,0,none⟩ 256 p.cap (p.pg.bytes.map (Value.int .u8)) (by rfl) hlen8 (Hby.out _ (Below.refl _ _).drew) (fun x hx=>by obtain⟨y,_,rfl⟩:=List.mem_map.1 hx;rfl) (by omega) (by unfold maxLen;omega) (by omega) (by simp) wr.heap.size (by simp) ?_;intro g1 cap1 w1 ho1 hg1 _ hl1;have hb1:Below wr.heap.size wr w1:=((Below.refl _ wr).drew).grown hg1 (by simp) (fun k e=>by cases e);have hz1:=hb1.size;have h1:=HS7.out _ hb1;refine LV hK (fun _=>h1) ?_;clear hK K;refine LT 36 h1 ?_;refine LU 37 fun K hK=> ?_
   go_simp;have h2:=HS7.out _ (hb1.alloc hz1 (.cells #[.int .u32 p.pg.addr,.int .u8 p.pg.perm,.slice (some ⟨g1,0,none⟩) 256 cap1] 305));refine LV hK (fun _=>h2) ?_;clear hK K;refine LU 38 fun K hK=> ?_
   go_simp;have hb3:=(hb1.alloc hz1 (.cells #[.int .u32 p.pg.addr,.int .u8 p.pg.perm,.slice (some ⟨g1,0,none⟩) 256 cap1] 305)).alloc (by simp;omega) (.cells #[.pointer (some ⟨w1.heap.size,0,none⟩)] 306);have h3:=HS7.out _ hb3;refine LV hK (fun _=>h3) ?_;clear hK K;refine LU 39 fun K hK=> ?_
   refine step_append_lies _ (by rfl) _ _ _ (by rfl) w.heap.size 306 i0 (.pointer none) 1 8 Tryz.underlying279 Hi.out Hz0.out Hz1.out Hz2.out rfl (by omega) lvc i (C.map Rp.ptr) (by rfl) (row_keep Ho.out fun k hk=>hb3.block k (Ho.out.lt k hk).2) ⟨w1.heap.size+1,0,none⟩ 1 1 [.pointer (some ⟨w1.heap.size,0,none⟩)] (by rfl) (by rfl) (cell_at1 _ _ _ _) (by simp[Value.oneCell']) (by omega) (by unfold maxLen;omega) (by omega) (by simp;omega) (w1.heap.size+2) (by simp) ?_;intro g4 cap4 w4 ho4 hg4 _ hl4;have hb4:∀k,k<wr.heap.size→lvc.ownBlock≠some k→w4.heap[k]? =wr.heap[k]? :=fun k hk hne=>(hg4.block k (by simp;omega) (fun e=>hne e.symm)).trans (hb3.block k hk)
   have hc4:w4.cell? ⟨w.heap.size,0,none⟩=some lvc:=(World.cell?_of_block (w:=wr) (hb4 _ hcbl Hnb.out)).trans hcc;have hf4:w4.frozen? ⟨w.heap.size,0,none⟩=false:=(World.frozen?_of_block (w:=wr) (hb4 _ hcbl Hnb.out)).trans Hfz.out;have h4:=And.intro hc4 (Hkeep.out _ hb4);refine LV hK (fun _=>h4) ?_;clear hK K;refine LU 40 fun K hK=> ?_
   go_simp;refine LV hK (fun _=>h4) ?_;clear hK K;refine LT 41 h4 ?_;refine LU 42 fun K hK=> ?_
   go_simp;refine hK.out _ _ (fun e=>absurd rfl e) (fun _=> ?_);clear hK K;try simp only[Act.put,Za,Zb,Zc,Zd,Ze,Zf]
   refine E_done (by kernel_rfl) ?_ _;go_wp2;refine⟨copy_step Hri.out Hpg.out HC.out HCl.out Hco.out Ho.out Hft.out HB.out Hup.out ho1 hb1 (((Below.refl _ _).alloc (Nat.le_refl _) _).alloc (by simp) _) (heap_alloc2_old _ _ _) ho4 hg4,by simp[intOf];omega⟩
  ·obtain rfl:i=n:=by omega
   have htk:R.take i=R:=List.take_of_length_le (by rw[Hn.out];exact Nat.le_refl _);rw[htk] at Hco;clear hown hbw htk;go_wp2;go_ret;exact⟨w.heap.size,lvc,C,rfl,HC.out,Hco.out,Hft.out,HB.out⟩
end Rs
open Go.RowKit Word
namespace En
structure Like(E F:En):Prop where
 num:E.num=F.num
 kind:E.kind=F.kind
 code:E.code=F.code
 why:E.why=F.why
 text:E.text=F.text
 own:E.own=F.own
 A:cores E.A=cores F.A
 r:E.r=F.r
 pc:E.pc=F.pc
theorem Like.refl(E:En):Like E E:=⟨rfl,rfl,rfl,rfl,rfl,rfl,rfl,rfl,rfl⟩
theorem Like.symm{E F:En}(h:Like E F):Like F E:=⟨h.num.symm,h.kind.symm,h.code.symm,h.why.symm,h.text.symm,h.own.symm,h.A.symm,h.r.symm,h.pc.symm⟩
theorem Like.trans{E F G:En}(h:Like E F)(k:Like F G):Like E G:=⟨h.num.trans k.num,h.kind.trans k.kind,h.code.trans k.code,h.why.trans k.why,h.text.trans k.text,h.own.trans k.own,h.A.trans k.A,h.r.trans k.r,h.pc.trans k.pc⟩
section
variable {E F:En}
theorem Like.stp(h:Like E F):Cp.Like (Cp.stp E.A E.r E.pc) (Cp.stp F.A F.r F.pc):=by
 rw[h.r,h.pc];exact Cp.like_stp h.A _ _
theorem Like.step(h:Like E F):Like E.step F.step:=by
 unfold En.step;rw[h.kind]
 by_cases g:F.kind≠2
 ·rw[if_pos g,if_pos g];exact h
 ·rw[if_neg g,if_neg g];have hs:=h.stp;simp only;rw[hs.kind]
  by_cases q:(Cp.stp F.A F.r F.pc).kind=2
  ·rw[if_pos q,if_pos q];exact⟨h.num,rfl,rfl,hs.why,h.text,h.own,hs.cores,hs.r,hs.pc⟩
  ·rw[if_neg q,if_neg q];exact⟨h.num,rfl,h.code,h.why,h.text,h.own,hs.cores,hs.r,hs.pc⟩
theorem Like.exit(h:Like E F)(c:Int):Like (E.exit c) (F.exit c):=by
 unfold En.exit;rw[h.kind]
 split
 ·exact h
 ·exact⟨h.num,rfl,rfl,rfl,h.text,h.own,h.A,h.r,h.pc⟩
theorem Like.mayE(h:Like E F)(x:Int):E.mayE x=F.mayE x:=by unfold En.mayE;rw[h.kind]
theorem Like.pageE(h:Like E F)(x:Int):E.pageE x=F.pageE x:=by unfold En.pageE;rw[h.mayE,Cor.mapE h.A]
theorem Like.page(h:Like E F)(x:Int)(b c:Nat):Like (E.page x b) (F.page x c):=by
 unfold En.page;rw[h.pageE]
 split
 ·exact h
 ·exact⟨h.num,h.kind,h.code,h.why,h.text,by show En.ins x E.own=En.ins x F.own;rw[h.own],Cor.mapA h.A x b c 3,h.r,h.pc⟩
theorem Like.dropE(h:Like E F)(x:Int):E.dropE x=F.dropE x:=by unfold En.dropE;rw[h.mayE,h.own,Cor.unmapE h.A]
theorem Like.drop(h:Like E F)(x:Int):Like (E.drop x) (F.drop x):=by
 unfold En.drop;rw[h.mayE,h.own]
 split
 ·exact h
 ·split
  ·exact⟨h.num,h.kind,h.code,h.why,h.text,rfl,Cor.unmapA h.A x,h.r,h.pc⟩
  ·exact h
theorem Like.putE(h:Like E F)(s:ByteArray):E.putE s=F.putE s:=by unfold En.putE;rw[h.kind,h.text]
theorem Like.put(h:Like E F)(s:ByteArray):Like (E.put s) (F.put s):=by
 unfold En.put;rw[h.putE]
 split
 ·exact h
 ·exact⟨h.num,h.kind,h.code,h.why,by show E.text++s=F.text++s;rw[h.text],h.own,h.A,h.r,h.pc⟩
theorem Like.arg(h:Like E F)(n:Int):E.arg n=F.arg n:=by unfold En.arg;rw[h.r]
theorem Like.answer(h:Like E F)(v y:Int):Like (E.answer v y) (F.answer v y):=⟨h.num,h.kind,h.code,h.why,h.text,h.own,h.A,by show Cp.putG (Cp.putG E.r 1 v) 2 y=_;rw[h.r];rfl,h.pc⟩
end
end En
structure RAt where
 eb:Nat
 rb:Nat
 lv:Value
 cb:Nat
 ow:Value
def RAt.foot(a:RAt)(R:List Rp)(k:Nat):Prop:=k=a.eb∨k=a.cb∨Rsp.foot a.rb a.lv R k∨a.ow.ownBlock=some k
def RAt.cells(a:RAt)(E:En):Array Value:= #[.int .i64 E.num,.pointer (some ⟨a.rb,0,none⟩),.pointer (some ⟨a.cb,0,none⟩),.int .u8 E.kind,.int .u32 E.code,.int .i64 E.why,a.ow,.string E.text]
structure Renv(w:World)(a:RAt)(R:List Rp)(E:En):Prop where
 blk:w.heap[a.eb]? =some (.cells (a.cells E) 83 (0,0))
 cp:Cpu 153 w a.cb E.r E.pc
 rp:Rsp w a.rb a.lv R
 eq:rpgs R=E.A
 ls:Sl.Lst w a.ow E.own
 ec:a.eb≠a.cb
 es:¬Rsp.foot a.rb a.lv R a.eb
 cs:¬Rsp.foot a.rb a.lv R a.cb
 le:∀g,a.ow.ownBlock=some g→g<w.heap.size∧g≠a.eb∧g≠a.cb∧¬Rsp.foot a.rb a.lv R g
 ok:E.Ok
namespace Renv
variable {w w':World} {a:RAt} {R:List Rp} {E:En}
theorem lt(h:Renv w a R E)(k:Nat)(hk:a.foot R k):k<w.heap.size:=by
 rcases hk with rfl|rfl|g|g
 ·exact lt_of_block h.blk
 ·exact h.cp.lt
 ·exact h.rp.lt g
 ·exact(h.le k g).1
theorem frame(h:Renv w a R E)(hf:∀k,a.foot R k→w'.heap[k]? =w.heap[k]?)(hz:w.heap.size≤w'.heap.size):Renv w' a R E:=
 {
  h with
  blk:=(hf _ (.inl rfl)).trans h.blk
  cp:=h.cp.frame (hf _ (.inr (.inl rfl)))
  rp:=h.rp.frame fun k hk=>hf k (.inr (.inr (.inl hk)))
  ls:=h.ls.frame fun g hg=>hf g (.inr (.inr (.inr hg)))
  le:=fun g hg=>⟨Nat.lt_of_lt_of_le (h.le g hg).1 hz,(h.le g hg).2⟩ }
theorem below(h:Renv w a R E)(hb:Below w.heap.size w w'):Renv w' a R E:=h.frame (fun k hk=>hb.block k (h.lt k hk)) hb.size
theorem keep{F:Nat→Prop}(h:Renv w a R E)(hm:Mod F w w')(hF:∀k,a.foot R k→¬F k):Renv w' a R E:=h.frame (fun k hk=>hm.block k (h.lt k hk) (hF k hk)) hm.size
theorem cell(h:Renv w a R E)(i:Nat)(v:Value)(hi:(a.cells E)[i]? =some v):w.cell? ⟨a.eb,i,none⟩=some v:=by
 unfold World.cell?;rw[h.blk];exact hi
theorem free(h:Renv w a R E)(i:Nat):w.frozen? ⟨a.eb,i,none⟩=false:=by
 unfold World.frozen?;rw[h.blk]
 simp
end Renv
theorem rcores_cores{C R:List Rp}(h:rcores C=rcores R):cores (rpgs C)=cores (rpgs R):=h
def RNewPost(w:World)(R:List Rp)(num pc:Int)(e:Ending)(w':World):Prop:=
 ∃a C,e=.returned (.tuple #[.pointer (some ⟨a.eb,0,none⟩),.bool true])∧Renv w' a C (En.new num pc (rpgs C))∧cores (rpgs C)=cores (rpgs R)∧(∀k,a.foot C k→w.heap.size≤k)∧Below w.heap.size w w'
namespace Rv
section
variable {w:World} {rb:Nat} {lv:Value} {R:List Rp}
theorem new(h:Rsp w rb lv R)(num pc:Int)(n0:1≤num)(n1:num≤8)(p0:0≤pc)(p1:pc≤4294967295):Calls Tryz.prog 76 #[.int .i64 num,.pointer (some ⟨rb,0,none⟩),.int .u32 pc] w (RNewPost w R num pc):=by
 have HC:=Lh (Rs.copy h);have g1:¬num<1:=by omega
 have g2:¬8<num:=by omega
 have HFin:Hid (∀cb lvc C w2,Rsp w2 cb lvc C→rcores C=rcores R→(∀k,Rsp.foot cb lvc C k→w.heap.size≤k)→Below w.heap.size w w2→
   RNewPost w R num pc (.returned (.tuple #[.pointer (some ⟨w2.heap.size+1,0,none⟩),.bool true])) ((w2.alloc (.cells #[.int .u32 0,.int .u32 0,.int .u32 0,.int .u32 0,.int .u32 0,.int .u32 0,.int .u32 0,.int .u32 0,.int .u32 0,.int .u32 0,.int .u32 0,.int .u32 0,.int .u32 0,.int .u32 0,.int .u32 0,.int .u32 0,.int .u32 pc] 153)).alloc (.cells #[.int .i64 num,.pointer (some ⟨cb,0,none⟩),.pointer (some ⟨w2.heap.size,0,none⟩),.int .u8 2,.int .u32 0,.int .i64 0,.slice none 0 0,.string ⟨#[]⟩] 83))):=Lh fun cb lvc C w2 hs hc hf hb=>by
  have hz:=hb.size;have hb1:Below w2.heap.size w2 (w2.alloc (.cells #[.int .u32 0,.int .u32 0,.int .u32 0,.int .u32 0,.int .u32 0,.int .u32 0,.int .u32 0,.int .u32 0,.int .u32 0,.int .u32 0,.int .u32 0,.int .u32 0,.int .u32 0,.int .u32 0,.int .u32 0,.int .u32 0,.int .u32 pc] 153)):=(Below.refl _ _).alloc (Nat.le_refl _) _;have hz1:(w2.alloc (.cells #[.int .u32 0,.int .u32 0,.int .u32 0,.int .u32 0,.int .u32 0,.int .u32 0,.int .u32 0,.int .u32 0,.int .u32 0,.int .u32 0,.int .u32 0,.int .u32 0,.int .u32 0,.int .u32 0,.int .u32 0,.int .u32 0,.int .u32 pc] 153)).heap.size=w2.heap.size+1:=by simp
  have hcp:Cpu 153 (w2.alloc (.cells #[.int .u32 0,.int .u32 0,.int .u32 0,.int .u32 0,.int .u32 0,.int .u32 0,.int .u32 0,.int .u32 0,.int .u32 0,.int .u32 0,.int .u32 0,.int .u32 0,.int .u32 0,.int .u32 0,.int .u32 0,.int .u32 0,.int .u32 pc] 153)) w2.heap.size (List.replicate 16 0) pc:=⟨heap_alloc_new w2 _,⟨rfl,fun x hx=>by rw[List.eq_of_mem_replicate hx];omega⟩,p0,p1⟩;generalize w2.alloc (.cells #[.int .u32 0,.int .u32 0,.int .u32 0,.int .u32 0,.int .u32 0,.int .u32 0,.int .u32 0,.int .u32 0,.int .u32 0,.int .u32 0,.int .u32 0,.int .u32 0,.int .u32 0,.int .u32 0,.int .u32 0,.int .u32 0,.int .u32 pc] 153)=w3 at*;have hba:Below w3.heap.size w3 (w3.alloc (.cells #[.int .i64 num,.pointer (some ⟨cb,0,none⟩),.pointer (some ⟨w2.heap.size,0,none⟩),.int .u8 2,.int .u32 0,.int .i64 0,.slice none 0 0,.string ⟨#[]⟩] 83)):=(Below.refl _ _).alloc (Nat.le_refl _) _;have hen:=heap_alloc_new w3 (.cells #[.int .i64 num,.pointer (some ⟨cb,0,none⟩),.pointer (some ⟨w2.heap.size,0,none⟩),.int .u8 2,.int .u32 0,.int .i64 0,.slice none 0 0,.string ⟨#[]⟩] 83);rw[hz1] at hen;refine⟨⟨w2.heap.size+1,cb,lvc,w2.heap.size,.slice none 0 0⟩,C,rfl, ?_,rcores_cores hc,fun k hk=> ?_, ?_⟩
  ·exact { blk:=hen,cp:=hcp.below hba,rp:=(hs.same hb1).same hba,eq:=rfl,ls:=Sl.Lst.nil _,ec:=by show w2.heap.size+1≠w2.heap.size;omega,es:=fun g=>absurd (hs.lt g) (by show¬w2.heap.size+1<w2.heap.size;omega),cs:=fun g=>Nat.lt_irrefl _ (hs.lt g),le:=fun g hg=>(nomatch hg),ok:=⟨List.Pairwise.nil,fun x hx=>(nomatch hx),fun x hx=>(nomatch hx),Nat.zero_le _⟩ }
  ·rcases hk with g|g|g|g
   ·rw[g];show w.heap.size≤w2.heap.size+1;omega
   ·rw[g];exact hz
   ·exact hf k g
   ·cases g
  ·exact(hb.trans (hb1.mono hz)).alloc (by omega) _
 generalize RNewPost w R num pc=PQ at*;clear h;go_enter func76,ntmps76;go_wp2_with fail;refine HC.out.mono ?_;rintro e w2 ⟨cb,lvc,C,rfl,hs,hc,hf,hb⟩;have HS:=Lh (⟨hs,hc,hf,hb⟩:Rsp w2 cb lvc C∧rcores C=rcores R∧(∀k,Rsp.foot cb lvc C k→w.heap.size≤k)∧Below w.heap.size w w2);clear hs hc hf hb;go_wp2;exact HFin.out cb lvc C w2 HS.out.1 HS.out.2.1 HS.out.2.2.1 HS.out.2.2.2
end
end Rv
end Go.Proofs.YtjjdjpdmgaipeaaGreat
namespace Go.Proofs.YtjjdjpdmgaipeaaGreat.Word
open Go.RowKit
theorem rev2(b cap:Nat)(x0 x1:Int)(w:World)(c0:w.cell? ⟨b,0,none⟩=some (.int .u8 x0))(c1:w.cell? ⟨b,1,none⟩=some (.int .u8 x1))(f0:w.frozen? ⟨b,0,none⟩=false)(f1:w.frozen? ⟨b,1,none⟩=false):
  Calls Tryz.prog 347 #[.slice (some ⟨b,0,none⟩) 2 cap] w fun e w'=>e=.returned (.tuple #[])∧Row8 w' b [x1,x0]∧Below b w w':=by
 go_enter func347,ntmps347;go_wp2;refine wp_loop_rounds 2 ?_;rw[rounds_succ];go_wp2;go_region;go_wp2;rw[rounds_succ];go_wp2;go_end0;refine⟨rfl,row8_of2 (by go_simp) (by go_simp), ?_⟩
 repeat (first|exact Below.refl _ _|apply Below.drew|refine Below.setCell ?_ (by simp) _)
theorem turned2(s:ByteArray)(hs:s.size=2)(w:World):Calls Tryz.prog 319 #[.string s] w fun e w'=>e=.returned (.string (strOfNums [(nums s).getD 1 0,(nums s).getD 0 0]))∧Below w.heap.size w w':=by
 have hcv:=fun(w:World)=>run_bytes_of_string (P:=Tryz.prog) w 9 30 5 s Tryz.underlying9 Tryz.underlying30 Tryz.underlying5
 have hfb:=Lh (fun w c j t fr hj=>fresh_bytes w s c j t fr hj);have hff:=Lh (fun w c j t hj=>fresh_free w s c j t hj);go_enter func319,ntmps319;go_wp2_with fail;refine(rev2 _ _ ((nums s).getD 0 0) ((nums s).getD 1 0) _ (hfb.out _ _ _ _ _ (by omega)) (hfb.out _ _ _ _ _ (by omega)) (hff.out _ _ _ _ (by omega)) (hff.out _ _ _ _ (by omega))).mono ?_;rintro e w1 ⟨rfl,hr,hb⟩;have hcv2:=fun cap=>run_convert_bytes_arg (P:=Tryz.prog) w1 30 5 Tryz.underlying30 Tryz.underlying5 w.heap.size 0 2 cap _ rfl hr 9 Tryz.underlying9
 have Hb:=Lh hb;clear hr hb;go_wp2;go_ret;exact⟨rfl,((((Below.refl _ _).alloc (Nat.le_refl _) _).drew).trans Hb.out)⟩
end Go.Proofs.YtjjdjpdmgaipeaaGreat.Word
namespace Go.Proofs.YtjjdjpdmgaipeaaGreat.Word
open Go.RowKit
theorem reverse_bd{l:List Int}(h:∀x,x∈l→0≤x∧x<256):∀x,x∈l.reverse→0≤x∧x<256:=fun x hx=>h x (by simpa using hx)
theorem list_of2(l:List Int)(h:l.length=2):[l.getD 1 0,l.getD 0 0]=l.reverse:=by
 match l,h with
 | [a,b],_=>rfl
theorem getHigh2(s:ByteArray)(hs:s.size=2)(w:World):
  Calls Tryz.prog 275 #[.string s] w fun e w'=>e=.returned (.tuple #[.int .u32 (getV (nums s).reverse),.int .i64 0])∧Below w.heap.size w w':=by
 have Hs:=Lh hs;have hl:(nums s).length=2:=by rw[nums_length,hs]
 obtain⟨t,ht⟩:∃t,t=strOfNums (nums s).reverse:=⟨_,rfl⟩;have htz:t.size=2:=by rw[ht,strOfNums_size,List.length_reverse,hl]
 have htn:nums t=(nums s).reverse:=by rw[ht];exact nums_strOfNums _ (reverse_bd (nums_bd s))
 have Ht:=Lh (show strOfNums [(nums s).getD 1 0,(nums s).getD 0 0]=t by rw[ht,list_of2 _ hl]);have Hz:=Lh htz;have Hn:=Lh htn;clear hl ht htz htn;go_enter func275,ntmps275;go_wp2_with (first|(go_at_call 319;refine(turned2 _ Hs.out _).mono ?_;rintro e w2 ⟨rfl,hb⟩;rw[Ht.out])|(go_at_call 318;refine(get_ok t (by rw[Hz.out];omega) (by rw[Hz.out];omega) _).mono ?_;rintro e w3 ⟨rfl,rfl⟩));go_ret2;exact⟨ret_ie (by rw[Hn.out]),by assumption⟩
end Go.Proofs.YtjjdjpdmgaipeaaGreat.Word
