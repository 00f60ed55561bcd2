/- Of ftw_card; no condition. -/
import Derived.Test.YthbonbflkdonkaaGreatDoorP02
import Derived.Test.YthbonbflkdonkaaGreatDoorP04
import Derived.ChangeArms
import Derived.ChangeOld
import Derived.ChangeShapes
import Derived.WideShapes
import Derived.Deep.MidRow
import GoSem.ClaimJoined
import GoSem.Claim
import Derived.SizedLaws
import Derived.Shelf.Vars
import Derived.Lib.LaidU8
set_option linter.all false
set_option maxRecDepth 100000
set_option maxHeartbeats 1000000
open Array renaming range->AT
open Go renaming TypeId->A8,Operand->AF,Value->AH,World->AI
open Go.Builtin renaming append_->AD
open Go.Call renaming operands->AR
open Go.ChangeSpec renaming post_blind->AS
open Go.DataW.Whole renaming of_heap->AW
open Go.Instr renaming fill->AX
open Go.Op renaming operands->AA
open Go.OpenSpec renaming ofChange->AL
open Go.Proofs.Tryz renaming ntmps68->AK,func68->AN
open Go.Result renaming andThen_ok->A4
open Go.Sem renaming run_bind->A9,run_pure->AJ
open List renaming replicate->A1,getElem?_eq_some_iff->A2,getElem?_map->A3,getElem?_set_self->A5,getElem_mem->A6,getElem?_eq_getElem->AB,getElem?_range->AG
open Nat renaming div_lt_of_lt_mul->A7,mul_comm->AC,mul_le_mul_right->AE,mod_eq_of_lt->AM,mul_add_mod->AO,div_add_mod->AP,mod_lt->AQ,le_refl->AU
open Option.some renaming inj->A0,injEq->AY
namespace Go.Proofs.YthbonbflkdonkaaGreatDoor
noncomputable section
section
open Go.RowKit
namespace Aw
variable{E:TyF}{T:A8}{k sz:Nat}{w:AI}{σ:Sg}{B:Bs}{c:Bool}{x:AF}
variable{P:Program}
section
variable{dst:Option Tmp}{ty:A8}{pos:String}{after:Array Edge}{gd:Option (Nat×Bool)}{env:List (Nat×AV)}{H:List Blk}
theorem QnS(z:Array AH)(n sz i j:Nat)(hz:z.size=sz)(hi:i<n)(hj:j<sz):(madeCells z (n*sz))[i*sz+j]? =z[j]? :=by
 have hlt:i*sz+j<n*sz:=by
  have h2:(i+1)*sz<=n*sz:=AE sz (by omega)
  grind
 grind [AC,AO,AM,madeCells]
theorem Qib{e:A8}{F:TyF}{u v:AF}{k1 k2:IntKind}{n:Nat}(hT:tyf P T=some F)(he:F.elem=some e)(hE:tyf P e=some E)(hu:aval env u= .d (.v (.int k1 (n:Int))))(hv:aval env v= .d (.v (.int k2 (n:Int))))
 (hz:E.zero.length=E.size) (hb:E.bytes*n<=281474976710656) (hm:n<=140737488355328):
 Loc P ⟨dst,.makeSlice T u v,ty,pos,after,gd⟩ env H (.osl H.length 0 0 n) (some (.arr 0 E.size e (A1 n (E.zero.map D.v)))):=
 Qri (by simp) (fun r hr=>by grind) fun σ S H' a w hop=>by
  have h1:=AV.conc_rel (hop u (by simp[AA])) (y:= .int k1 (n:Int)) (by rw[hu];rfl);have h2:=AV.conc_rel (hop v (by simp[AA])) (y:= .int k2 (n:Int)) (by rw[hv];rfl);obtain⟨d,i,z,_,hi,hzz,hs,hby,hzl,_⟩:=QdX hE;have hzs:z.cells.size=E.size:=by grind
  have hr:=run_make (P:=P) w T e i z (QdB hT he) hi hzz k1 k2 n n (by omega) (Int.le_refl _) (by grind) (by omega);simp only[Int.toNat_natCast] at hr;refine⟨madeCells z.cells (n*i.size),?_,by rw[size_madeCells,hs],by unfold maxLen;omega,fun a b r d ha hb=>?_⟩
  ·simp only[execOp,h1,h2,A9,hr];rfl
  ·have hal:a<n:=by grind
   rw[List.getElem?_replicate,if_pos hal] at ha;obtain rfl:=A0 ha;rw[A3] at hb;cases hzb:E.zero[b]? with
   |none=>grind
   |some c=>
    rw[hzb] at hb;obtain rfl:=A0 hb;have hbl:b<E.size:=by grind
    refine⟨c,?_,.v _⟩
    grind [QnS]
def chunk(sz:Nat):Nat->List AV->Option (List (List D))
 |0,[]=>some []
 |0,_::_=>none
 |n+1,l=>match allD (l.take sz),chunk sz n (l.drop sz) with
  |some r,some rs=>if r.length=sz then some (r::rs) else none
  |_,_=>none
theorem Qhl{sz:Nat}: ∀{n:Nat} {l:List AV} {rows:List (List D)},chunk sz n l=some rows->rows.length=n/\(∀r∈rows,r.length=sz)/\ ∀(i j:Nat) r d,rows[i]? =some r->r[j]? =some d->l[i*sz+j]? =some (.d d)
 |0,[],rows,h=>by grind [chunk]
 |0,_::_,rows,h=>by simp[chunk] at h
 |n+1,l,rows,h=>by
  simp only[chunk] at h;cases h1:allD (l.take sz) with
  |none=>grind
  |some r=>
   cases h2:chunk sz n (l.drop sz) with
   |none=>grind
   |some rs=>
    rw[h1,h2] at h;simp only at h;split at h;rotate_left
    ·cases h
    rename_i hrs;obtain rfl:=A0 h;obtain⟨h3,h4,h5⟩:=Qhl h2;refine⟨by simp[h3],fun r' hr'=>?_,fun i j r' d hi hj=>?_⟩
    ·grind
    ·cases i with
     |zero=>
      simp at hi;subst hi;have he:=QfF h1;have hjl:j<sz:=by grind
      have:(l.take sz)[j]? =some (.d d):=by grind
      grind
     |succ i=>
      grind
theorem Qgx{e:A8}{F:TyF}{n:Nat}{parts:Array (Nat×AF)}{res:List AV}(hT:tyf P T=some F)(he:F.elem=some e)(hE:tyf P e=some E)
 (hz:E.zero.length=E.size) (hr:fillA (fun i=>some (i*E.size,E.size)) env (A1 n (E.zero.map fun v=>AV.d (.v v))).flatten parts.toList=some res)
 (hm:n*E.size<=16777216) (hn:n<=16777216) (σ:Sg) (S:Nat->Prop) (H':List Blk) (a:Act) (w:AI) (hop: ∀u∈(⟨dst,.buildSlice T n parts,ty,pos,after,gd⟩:Oper).op.operands,Rel σ S H' w (aval env u) (a.eval u)):
 ∃cs,(execOp a.eval ⟨dst,.buildSlice T n parts,ty,pos,after,gd⟩).run P w= .ok (.value (.slice (some ⟨w.heap.size,0,none⟩) n n)) (w.alloc (.cells cs e))/\cs.size=n*E.size/\n<=maxLen/\
  ∀(j:Nat) x,res[j]? =some x-> ∃v,cs[j]? =some v/\Rel σ S H' w x v:=by
 obtain⟨d,i,z,hd,hi,hzz,hs,hby,hzl,_⟩:=QdX hE;have hzs:z.cells.size=E.size:=by grind
 have hflen: ∀m,(A1 m (E.zero.map fun v=>AV.d (.v v))).flatten.length=m*E.size:=fun m=>by
  simp_all
 have hfget: ∀(m j:Nat) x,(A1 m (E.zero.map fun v=>AV.d (.v v))).flatten[j]? =some x-> ∃v,(madeCells z.cells (m*E.size))[j]? =some v/\x= .d (.v v):=by
  intro m j x hx;have hjl:j<m*E.size:=by grind
  have hpos:0<E.size:=by
   grind
  have hq:j=(j/E.size)*E.size+j%E.size:=by rw[AC];exact(AP j E.size).symm
  have hmod:=AQ j hpos;have hdiv:j/E.size<m:=A7 (by grind)
  have key: ∀(m q:Nat),q<m-> ∀t,t<E.size->(A1 m (E.zero.map fun v=>AV.d (.v v))).flatten[q*E.size+t]? =(E.zero.map fun v=>AV.d (.v v))[t]? :=by
   intro m;induction m with
   |zero=>omega
   |succ m ih=>
    intro q hq t ht;rw[List.replicate_succ,List.flatten_cons];cases q with
    |zero=>grind
    |succ q=>
     rw[List.getElem?_append_right (by grind)];have:(q+1)*E.size+t -(E.zero.map fun v=>AV.d (D.v v)).length=q*E.size+t:=by grind
     grind
  rw[hq,key m _ hdiv _ hmod,A3] at hx;cases hzb:E.zero[j%E.size]? with
  |none=>grind
  |some c=>
   rw[hzb] at hx;obtain rfl:=A0 hx;refine⟨c,?_,rfl⟩;rw[hq,QnS z.cells m E.size _ _ hzs hdiv hmod]
   grind
 obtain⟨cs',h1,h2,h3⟩:=Qoj (env:=env) (σ:=σ) (S:=S) (H':=H') (a:=a) (w:=w) (pl:=fun i=>some (i*E.size,E.size)) parts.toList _ (madeCells z.cells (n*E.size)) res
  (fun p hp=>hop p.2 (by simp only[AA];grind)) hr (by rw[hflen,size_madeCells]) (fun j x hx=>by
    obtain⟨v,hv,rfl⟩:=hfget n j x hx
    exact⟨v,hv,.d _ _ (.v _)⟩)
 have hlen:res.length=n*E.size:=by
  have: ∀(ps:List (Nat×AF)) (cells r:List AV),fillA (fun i=>some (i*E.size,E.size)) env cells ps=some r->r.length=cells.length:=by
   intro ps;induction ps with
   |nil=>intro cells r h;simp[fillA] at h;rw[h]
   |cons p ps ih=>
    intro cells r h;simp only[fillA] at h;cases hcl:(aval env p.2).cells with
    |none=>grind
    |some l=>
     rw[hcl] at h;simp only at h;cases hb:(Nat.beq l.length E.size&&Nat.ble (p.1*E.size+l.length) cells.length) with
     |false=>grind
     |true=>
      rw[hb] at h;rw[ih _ _ h,Qlt]
  grind
 refine⟨cs',?_,by omega,by unfold maxLen;omega,h3⟩
 ·have hi':i.size=E.size:=hs
  simp only[execOp,Instr.buildSlice,A9,run_underlying (QdB hT he),A4,QdY hE];rw[if_neg (by omega)]
  by_cases h0:n*E.size=0
  ·rw[if_pos h0]
   simp only[A9,AJ,A4];have hm0:madeCells z.cells (n*E.size)=((AT (n*E.size)).map fun x=>(#[]:Array AH)[x%(#[]:Array AH).size]!):=by rw[h0];simp[madeCells,Array.range_zero']
   rw[<-hm0];have h1':AX (fun i=>some (i*E.size,E.size)) (madeCells z.cells (n*E.size)) (parts.map fun x=>(x.1,a.eval x.2)).toList=some cs':=by simp_all
   rw[h1'];simp[newRow]
  ·rw[if_neg h0]
   have hzr:(zeroValue e).run P w= .ok z w:=by simp[zeroValue,typeInfo,hi,hzz]
   simp only[A9,hzr,AJ,A4];have h1':AX (fun i=>some (i*E.size,E.size)) ((AT (n*E.size)).map fun x=>z.cells[x%z.cells.size]!) (parts.map fun x=>(x.1,a.eval x.2)).toList=some cs':=by rw[<-h1];simp[madeCells]
   rw[h1'];simp[newRow]
theorem Qgy{e:A8}{F:TyF}{n:Nat}{parts:Array (Nat×AF)}{res:List AV}{rows:List (List D)}(hT:tyf P T=some F)(he:F.elem=some e)(hE:tyf P e=some E)
 (hz:E.zero.length=E.size) (hr:fillA (fun i=>some (i*E.size,E.size)) env (A1 n (E.zero.map fun v=>AV.d (.v v))).flatten parts.toList=some res) (hc:chunk E.size n res=some rows)
 (hm:n*E.size<=16777216) (hn:n<=16777216) (σ:Sg) (S:Nat->Prop) (H':List Blk) (a:Act) (w:AI) (hop: ∀u∈(⟨dst,.buildSlice T n parts,ty,pos,after,gd⟩:Oper).op.operands,Rel σ S H' w (aval env u) (a.eval u)):
 ∃cs,(execOp a.eval ⟨dst,.buildSlice T n parts,ty,pos,after,gd⟩).run P w= .ok (.value (.slice (some ⟨w.heap.size,0,none⟩) n n)) (w.alloc (.cells cs e))/\cs.size=n*E.size/\n<=maxLen/\
  ∀(i j:Nat) r d,rows[i]? =some r->r[j]? =some d-> ∃v,cs[i*E.size+j]? =some v/\RelD S w d v:=by
 obtain⟨hrl,hrs,hrg⟩:=Qhl hc;obtain⟨cs,h1,h2,h3,h4⟩:=Qgx (dst:=dst) (ty:=ty) (pos:=pos) (after:=after) (gd:=gd) hT he hE hz hr hm hn σ S H' a w hop;refine⟨cs,h1,h2,h3,fun q j r d hq hj=>?_⟩;obtain⟨v,hv,hrel⟩:=h4 _ _ (hrg q j r d hq hj);cases hrel with
 |d _ _ h=>grind
theorem Qjw{e:A8}{F:TyF}{n:Nat}{parts:Array (Nat×AF)}{res:List AV}{rows:List (List D)}(hT:tyf P T=some F)(he:F.elem=some e)(hE:tyf P e=some E)
 (hz:E.zero.length=E.size) (hr:fillA (fun i=>some (i*E.size,E.size)) env (A1 n (E.zero.map fun v=>AV.d (.v v))).flatten parts.toList=some res) (hc:chunk E.size n res=some rows)
 (hm:n*E.size<=16777216) (hn:n<=16777216):Loc P ⟨dst,.buildSlice T n parts,ty,pos,after,gd⟩ env H (.osl H.length 0 0 n) (some (.arr 0 E.size e rows)):=by
 obtain⟨hrl,hrs,hrg⟩:=Qhl hc;exact Qri hrl hrs (Qgy hT he hE hz hr hc hm hn)
end
def Qiv(w:AI)(t ty e:A8)(i:TypeInfo)(ht:P.underlying t=some (.slice e))(hi:P.info? e=some i)(b:Option Addr)(n cap:Nat)(hn:n<=cap)(ax:Option Addr)(c:Nat):
 (AD #[t,t] ty #[.slice b n cap,.slice ax 0 c]).run P w= .ok (.slice b n cap) w:=by
 cases ax<;>cases b<;>simp[AD,run_underlying ht,sizeOf,typeInfo,hi,Builtin.lenOf,Builtin.firstCells,loadCells,loadCellsFrom,storeCells,hn]
theorem Sm.bump{S:Nat->Prop}{H:List Blk}{g:Nat}{rows:List (List D)}(h:Sm B σ S H w)(hC:H[k]? =some (.arr g sz T rows)):
 Sm B σ S (H.set k (.arr (g+1) sz T rows)) w/\Ev σ S H w σ S (H.set k (.arr (g+1) sz T rows)) w:=by
 have hkl:k<H.length:=(A2.1 hC).1
 have e:Ev σ S H w σ S (H.set k (.arr (g+1) sz T rows)) w:=by
  refine⟨fun _ h=>h,fun _ _=>rfl,fun j g' cells hD=>?_,fun j g' sz' T' rows' hD=>?_,fun j g' l hD=>?_⟩
  ·grind
  ·grind
  grind
 refine⟨⟨h.os,h.tape,h.output,h.size,h.keep,h.sLo,h.sUp,fun k' b hk=>h.σUp k' b (by grind),fun k1 k2 b h1 h2=>h.inj k1 k2 b (by grind) (by grind),fun j D hD=>?_⟩,e⟩
 by_cases hj:j=k
 ·subst hj
  rw[A5 hkl] at hD;obtain rfl:=A0 hD;exact h.blk j _ hC
 ·rw[List.getElem?_set_ne (fun e=>hj e.symm)] at hD
  exact(h.blk j D hD).mono e rfl fun b _=>rfl
theorem RelD.sl_cells{S:Nat->Prop}{n:Nat}{rows:List (List D)}{v:AH}(h:RelD S w (.sl c n rows) v)(hcell: ∀r∈rows,∀d∈r,d.cell=true):
 ∃ax cap,v= .slice ax rows.length cap/\(0<rows.length-> ∃a news,ax=some a/\Flat n rows (RelD S w) news/\(∀(j:Nat) u,news[j]? =some u->w.cell? (a.add j)=some u)/\ ∀u∈news,u.oneCell'=true):=by
 cases h with
 |slnil c n a cap=>simp
 |sl c n l b o cap g hS hn hcap hc hr=>
  refine⟨some ⟨b,o,none⟩,cap,rfl,fun hpos=>⟨⟨b,o,none⟩,(List.range (rows.length*n)).map fun t=>g (t/n) (t%n),rfl,⟨by simp,hn,fun i j r d hi hj=>?_⟩,fun j u hu=>?_,fun u hu=>?_⟩⟩
  ·have hil:i<rows.length:=(A2.1 hi).1
   have hjl:j<n:=by grind
   have hlt:i*n+j<rows.length*n:=by
    have h2:(i+1)*n<=rows.length*n:=AE n (by omega)
    grind
   refine⟨g i j,?_,hr i j r d hi hj⟩;rw[A3,AG hlt];have h1:(i*n+j)/n=i:=by rw[AC,Nat.mul_add_div (by omega),Nat.div_eq_of_lt hjl];omega
   have h2:(i*n+j)%n=j:=by rw[AC,AO,AM hjl]
   grind
  ·have key: ∀t,t<rows.length*n-> ∃r d,rows[t/n]? =some r/\r[t%n]? =some d:=fun t ht=>by
    have hpos:0<n:=by
     grind
    have hi:t/n<rows.length:=A7 (by grind);have hj:t%n<(rows[t/n]).length:=by rw[hn _ (A6 hi)];exact AQ _ hpos
    simp_all
   rw[A3] at hu
   have hjl:j<rows.length*n:=by
    grind
   rw[AG hjl] at hu;simp only[Option.map_some,AY] at hu;subst hu;obtain⟨r,d,h1,h2⟩:=key j hjl;have:=hc _ _ r d h1 h2;rw[Qea,<-this]
   congr 2
   have:=AP j n
   grind
  ·obtain⟨t,ht,rfl⟩:=List.mem_map.1 hu
   have htl:=List.mem_range.1 ht
   have hpos':0<n:=by
    grind
   have hi:t/n<rows.length:=A7 (by grind);have hj:t%n<(rows[t/n]).length:=by rw[hn _ (A6 hi)];exact AQ _ hpos'
   exact D.cell_one (hr _ _ _ _ (AB hi) (AB hj)) (hcell _ (A6 hi) _ (A6 hj))
theorem OSl.cells{S:Nat->Prop}{H:List Blk}{g off len:Nat}{rows:List (List D)}{v:AH}(hS:Sm B σ S H w)(hk:H[k]? =some (.arr g sz T rows))(h:OSl σ w k sz rows.length off len v)
 (hcell: ∀r∈rows,∀d∈r,d.cell=true):
 ∃ax cap,v= .slice ax len cap/\(0<len-> ∃a news,ax=some a/\Flat sz ((rows.drop off).take len) (RelD S w) news/\(∀(j:Nat) u,news[j]? =some u->w.cell? (a.add j)=some u)/\ ∀u∈news,u.oneCell'=true):=by
 obtain⟨hb,hv⟩:=h;obtain⟨hlen,hbk⟩:=hS.blk k _ hk;rcases hv with⟨b,cap,cs,T',hσ,hl,hcm,rfl,hc,hs⟩|⟨hσ,rfl,rfl⟩;rotate_left
 ·grind
 rcases hbk with⟨b',cs',hσ',hc',hrel⟩|⟨hσ',_⟩;rotate_left
 ·grind
 rw[hσ] at hσ';obtain rfl:=A0 hσ';have hln:((rows.drop off).take len).length=len:=by grind
 have hmem: ∀(i:Nat) r,((rows.drop off).take len)[i]? =some r->rows[off+i]? =some r:=fun i r hi=>by
  grind
 have key: ∀(i j:Nat) r d,((rows.drop off).take len)[i]? =some r->r[j]? =some d-> ∃u,cs'[off*sz+i*sz+j]? =some u/\RelD S w d u:=by
  grind
 have hfin:RelD (fun x=>S x∨x=b) w (.sl false sz ((rows.drop off).take len)) (.slice (some ⟨b,off*sz,none⟩) ((rows.drop off).take len).length cap):=by
  refine .sl false sz _ b (off*sz) cap (fun i j=>(cs'[off*sz+i*sz+j]?).getD undef) (.inr rfl) (fun r hr'=>?_) (fun h=>by cases h) (fun i j r d hi hj=>?_) fun i j r d hi hj=>?_
  ·grind
  ·obtain⟨u,hu,_⟩:=key i j r d hi hj
   rw[cell_of_row w b _ cs' T (0,0) hc',hu];rfl
  ·obtain⟨u,hu,hr'⟩:=key i j r d hi hj
   rw[hu];exact hr'.mono (fun _ h=> .inl h) fun _ _=>rfl
 rw[hln] at hfin;obtain⟨ax,cap',h1,h2⟩:=hfin.sl_cells (fun r hr d hd=>hcell r (List.mem_of_mem_drop (List.mem_of_mem_take hr)) d hd);rw[hln] at h1 h2;refine⟨ax,cap',h1,fun hpos=>?_⟩;obtain⟨a,news,h3,h4,h5,h6⟩:=h2 hpos;injection h1 with e1 e2 e3;subst h3;have e1':=A0 e1;subst e1';refine⟨_,news,rfl,⟨h4.1,h4.2.1,fun i j r d hi hj=>?_⟩,h5,h6⟩;obtain⟨u,hu,_⟩:=h4.2.2 i j r d hi hj;refine⟨u,hu,?_⟩;obtain⟨u',hu',hr'⟩:=key i j r d hi hj;have h7:=h5 _ u hu;rw[Qea,cell_of_row w b _ cs' T (0,0) hc'] at h7
 grind
theorem QiY{e:A8}{F:TyF}{s:AF}{g len:Nat}{rows newrows:List (List D)}{dst:Option Tmp}{ty:A8}{pos:String}{after:Array Edge}{gd:Option (Nat×Bool)}{env:List (Nat×AV)}{H:List Blk}
 (hT:tyf P T=some F) (he:F.elem=some e) (hE:tyf P e=some E) (hz:E.zero.length=E.size) (hpos:0<E.size)
 (hs:aval env s= .osl k g 0 len) (hk:H[k]? =some (.arr g E.size e rows)) (hlen:len=rows.length)
 (hx: ∀B σ S w v,Sm B σ S H w->Rel σ S H w (aval env x) v-> ∃ax cap,v= .slice ax newrows.length cap/\(0<newrows.length-> ∃a news,ax=some a/\Flat E.size newrows (RelD S w) news/\(∀(j:Nat) u,news[j]? =some u->w.cell? (a.add j)=some u)/\ ∀u∈news,u.oneCell'=true))
 (hb:(rows.length+newrows.length)*E.bytes<=140737488355328) (hm:rows.length+newrows.length<=140737488355328):
 Eff P ⟨dst,.call ⟨.builtin .append, #[s,x], #[T,T]⟩,ty,pos,after,gd⟩ env H (.osl k (g+1) 0 (rows.length+newrows.length)) (H.set k (.arr (g+1) E.size e (rows++newrows))):=by
 intro B σ S a w hB hS hop K Q kk;have hkl:k<H.length:=(A2.1 hk).1;have h1:=hop s (by simp[AA,AR]);have h2:=hop x (by simp[AA,AR]);rw[hs] at h1;subst hlen;generalize hv:a.eval s=v at h1;obtain⟨ax,c,hxv,hnews⟩:=hx B σ S w _ hS h2;obtain⟨d,i,z,hd,hi,hzz,hsz,hby,hzl,_⟩:=QdX hE;have hzs:z.cells.size=E.size:=by grind
 have hu:=QdB hT he
 have hexec: ∀v' w',(AD #[T,T] ty #[v,.slice ax newrows.length c]).run P w= .ok v' w'->(execOp a.eval ⟨dst,.call ⟨.builtin .append, #[s,x], #[T,T]⟩,ty,pos,after,gd⟩).run P w= .ok (.value v') w':=fun v' w' hr=>by
  simp only[execOp,resolve,invoke,builtin,A9,AJ,A4,List.map_toArray,List.map_cons,List.map_nil,hv,hxv,hr]
 cases h1 with
 |osl _ _ _ _ _ _ g' sz' T' rows' hk' hg hh=>
  rw[hk] at hk';obtain⟨rfl,rfl,rfl,rfl⟩:g=g'/\E.size=sz'/\e=T'/\rows=rows':=by grind
  have hos:=hh rfl;rcases Nat.eq_zero_or_pos newrows.length with h0|hnpos
  ·have hnil:newrows=[]:=List.eq_nil_of_length_eq_zero h0
   subst hnil;obtain⟨h3,h4⟩:=hS.bump hk
   have hr: ∃b cap,v= .slice b rows.length cap/\rows.length<=cap:=by
    rcases hos.2 with⟨b,cap,cs,T',hσ,hl,hcm,rfl,hc,hs⟩|⟨hσ,hl,rfl⟩
    ·grind
    grind
   obtain⟨b,cap,hvv,hcap⟩:=hr;have hrun:=Qiv (P:=P) w T ty e i hu hi b rows.length cap hcap ax c;rw[<-hvv] at hrun;refine Qgs (hexec _ _ hrun) (kk _ w σ S (by grind) ?_ (by grind));simp only[List.length_nil,Nat.add_zero,List.append_nil];refine .osl k (g+1) 0 rows.length _ (by omega) (g+1) E.size e rows (A5 hkl) (AU _) fun _=>hos
  ·obtain⟨aa,news,rfl,hfl,hcells,hone⟩:=hnews hnpos
   obtain⟨v',w',σ',hr,h3,h4,h5⟩:=hS.append (P:=P) (ty:=ty) (c:=c) hk hos hpos hu hi hzz hsz hzs hcells hone hfl (by grind) hm;refine Qgs (hexec _ _ hr) (kk _ w' σ' S h3 ?_ h4);refine .osl k (g+1) 0 _ _ ?_ (g+1) E.size e (rows++newrows) (A5 hkl) (AU _) fun _=>by grind
   rcases h5.2 with⟨b,cap,cs,T',_,_,_,rfl,_⟩|⟨_,_,rfl⟩<;>rfl
def Qqv{env:List (Nat×AV)}{H:List Blk}{n:Nat}{rows:List (List D)}(hx:aval env x= .d (.sl c n rows))(hcell: ∀r∈rows,∀d∈r,d.cell=true):
 ∀B σ S w v,Sm B σ S H w->Rel σ S H w (aval env x) v-> ∃ax cap,v= .slice ax rows.length cap/\(0<rows.length-> ∃a news,ax=some a/\Flat n rows (RelD S w) news/\(∀(j:Nat) u,news[j]? =some u->w.cell? (a.add j)=some u)/\ ∀u∈news,u.oneCell'=true):=
 fun B σ S w v _ h=>by
  rw[hx] at h;cases h with
  |d _ _ h=>exact h.sl_cells hcell
theorem Qqw{env:List (Nat×AV)}{H:List Blk}{g len:Nat}{rows:List (List D)}(hx:aval env x= .osl k g 0 len)(hk:H[k]? =some (.arr g sz T rows))(hlen:len=rows.length)(hcell: ∀r∈rows,∀d∈r,d.cell=true):
 ∀B σ S w v,Sm B σ S H w->Rel σ S H w (aval env x) v-> ∃ax cap,v= .slice ax rows.length cap/\(0<rows.length-> ∃a news,ax=some a/\Flat sz rows (RelD S w) news/\(∀(j:Nat) u,news[j]? =some u->w.cell? (a.add j)=some u)/\ ∀u∈news,u.oneCell'=true):=
 fun B σ S w v hS h=>by
  subst hlen;rw[hx] at h;cases h with
  |osl _ _ _ _ _ _ g' sz' T' rows' hk' hg hh=>
   rw[hk] at hk';obtain⟨rfl,rfl,rfl,rfl⟩:g=g'/\sz=sz'/\T=T'/\rows=rows':=by grind
   have:=OSl.cells hS hk (hh rfl) hcell
   grind
theorem QeW(t sz:Nat)(T:A8){c:Code}{Q:Exit->St->Prop}{n:Nat}{env:List (Nat×AV)}{H:List Blk}{P:Program}(ht:look env t= .d (.v (.slice none 0 0)):=by rfl)
 (h:AWP P c Q ⟨n,(t,.osl H.length 0 0 0)::env,H++[.arr 0 sz T []]⟩):AWP P c Q ⟨n,env,H⟩:=by
 refine Qgr ?_ h;intro B σ S a w hA;obtain⟨h1,h2,h3⟩:=hA.sm.virt sz T;refine⟨_,S,h1,hA.defers,hA.size,fun u=>?_⟩
 by_cases hu:t=u
 ·subst hu
  show Rel _ _ _ _ (look ((t,_)::env) t) _;rw[Qdw];have:=AV.conc_rel (hA.env t) (y:= .slice none 0 0) (by show(look env t).conc=_;rw[ht];rfl)
  grind
 ·show Rel _ _ _ _ (look ((t,_)::env) u) _
  rw[Qd2 hu];exact(hA.env u).mono h2
end Aw
end
section
open Go.RowKit
namespace Pm
open Pl (inR)
def l6In(n a b:Int)(w:AI):Calls Tryz.prog 68 #[.int .i64 n,.int .i64 a,.int .i64 b] w fun e w'=>e= .returned (.bool (inR n a b))/\w=w':=by
 by_cases h1:a<=n
 ·by_cases h2:n<=b
  ·have hf:=hid (show inR n a b=true by simp[inR,h1,h2])
   go_enter AN,AK
   go_wp2
   go_ret
   exact⟨Qd1 hf.out.symm,rfl⟩
  ·have hf:=hid (show inR n a b=false by simp[inR,h2])
   have h3:b<n:=by omega
   clear h2
   go_enter AN,AK
   go_wp2
   go_ret
   exact⟨Qd1 (by rw[hf.out,decide_eq_false (by omega)]),rfl⟩
 ·have hf:=hid (show inR n a b=false by simp[inR,h1])
  have h3:n<a:=by omega
  clear h1
  go_enter AN,AK
  go_wp2
  go_ret
  exact⟨Qd1 hf.out.symm,rfl⟩
end Pm
end
section
open Go.RowKit
namespace Pm
abbrev Ptr:=Pl.Ptr
abbrev Tree:=Pl.Tree
abbrev Space:=List Int×List Int
abbrev Store:=List Str×Space×Int×List Ptr×Int×List Ptr×Bool
def PtrIn(p:Ptr):Prop:=InI p.pat/\InI p.birth/\InI p.size/\InI p.sum/\InI p.level
def ptrL(p:Ptr):List AH:=[.int .i64 p.pat,.int .i64 p.birth,.int .i64 p.size,.int .i64 p.sum,.int .i64 p.level]
def treeL(t:Tree):List AH:=[.int .i64 t.root.pat,.int .i64 t.root.birth,.int .i64 t.root.size,.int .i64 t.root.sum,.int .i64 t.root.level,.int .i64 t.depth,.int .i64 t.many]
instance instRepPtr:Rep Pl.Ptr where
 size:=5
 cells _ _ cs p:=cs=ptrL p/\PtrIn p
 len h:=by rw[h.1];rfl
 keep h _ _:=h
end Pm
end
section
open Go.RowKit Go.ChangeShapes Go.WideShapes
namespace Pm
theorem Qnr{α:Type}{p:Nat->α->Prop}(n:Nat)(h: ∀i,i<n-> ∃a,p i a): ∃l:List α,l.length=n/\ ∀i x,l[i]? =some x->p i x:=by
 induction n with
 |zero=>simp
 |succ n ih=>
  obtain⟨l,hl,hp⟩:=ih fun i hi=>h i (by omega)
  obtain⟨a,ha⟩:=h n (by omega);refine⟨l++[a],by simp[hl],fun i x hx=>?_⟩
  grind
theorem Qlv{H:Type}{enc:A8×AH->H}{a:Assume}{C:Checked}{os:Os}{f:FuncId}{fn:Func}{s:ChangeSpec}{conds:List PathCond}{apart fresh handsOn again:Bool}{X:AI->Array AH->Prop}
 (hX: ∀(w w':AI) (args:Array AH),w.heap=w'.heap->X w args->X w' args)
 (own:ownKnob C.prog.godebug=none) (started:os.Started) (noInit:C.prog.inits.idxOf? f=none) (hfn:C.prog.funcs[f]? =some fn)
 (witness: ∃(w:AI) (tape:Tape) (i:Input),w.os=os/\(w.forCall tape i).Shaped C.prog/\i.vars=[]/\Input.okWide C.prog (w.forCall tape i) .any w.heap.size f i/\
   ((s.pre enc C.prog fn conds apart (w.forCall tape i).memory i.args/\X (w.forCall tape i).memory i.args)/\sizedMet enc C.prog fn (AL s) apart (w.forCall tape i).memory i.args)/\a.holds C.prog (lone (Frame.enter C.prog f i.args .normal) [] (w.forCall tape i)))
 (contract: ∀(W:AI) (base:Nat) (args:Array AH) (ds gs:List (DataW H)) (before:List MemPlace),
   (∀(j:Nat) t v,fn.params[j]? =some t->args[j]? =some v->Value.okWide C.prog W .any base t v)->
   DataW.Whole enc C.prog fn.params.toList s.vars apart W args.toList ds gs before->
   (DataW.weightsEach C.prog (fn.params.toList++s.plain.varTypes C.prog) (ds++gs)).all (· <=reachBytes)=true->X W args->W.ShapedOpen C.prog->
   Calls C.prog f args W fun e W'=> ∃v,e= .returned v/\s.post enc C.prog fn apart fresh handsOn again W args v W'):
 ReturnsInHanded a C os f .any (fun w args=>(s.pre enc C.prog fn conds apart w args/\X w args)/\sizedMet enc C.prog fn (AL s) apart w args) (s.post enc C.prog fn apart fresh handsOn again):=by
 refine returnsInHanded_of_calls own started noInit witness ?_;intro w tape i _ hsh _ hok hpre _;obtain⟨_,_,_,fn',hfn',_,_,_,_,hval⟩:=hok;have e:fn'=fn:=A0 (hfn'.symm.trans hfn);subst e;obtain⟨⟨⟨ds,gs,before,hw,hc⟩,hx⟩,hz⟩:=hpre;have hw':=AW (w':=w.forCall tape i) (by rfl) hw;refine(contract (w.forCall tape i) w.heap.size i.args ds gs before hval hw' (hz.weights hw) (hX _ _ _ (by rfl) hx) hsh).mono fun e W' ⟨v,he,hp⟩=>?_
 subst he;exact AS hp
theorem Qgu{P:Program}{w:AI}{n nm:String}{d:DataW Unit}{g:Nat}{ti:A8}{ms:Array (String×A8)}(h:Lib.VarReads P w n (.iface nm d))
 (hg:P.globalNamed n=some g) (ht:(P.globals[g]?).map (·.type)=some ti) (hi:P.underlying ti=some (.interface ms)): ∃te pe,w.cell? ⟨g,0,none⟩=some (.iface te pe):=by
 obtain⟨g',t',cs,fuel,p,h1,h2,h3,h4⟩:=h;obtain rfl:=A0 (hg.symm.trans h1);obtain rfl:=A0 (ht.symm.trans h2);obtain⟨_,u,v,e,_,_⟩:=iface_of_trod hi h4;refine⟨u,v,?_⟩;have:=World.var?_cell hg h3 0;have e2:cs[0]? =some (.iface u v):=by rw[<-Array.getElem?_toList,e];rfl
 grind
