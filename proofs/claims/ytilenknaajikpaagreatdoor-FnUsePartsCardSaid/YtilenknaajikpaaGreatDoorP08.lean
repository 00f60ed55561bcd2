/- Of parts_card; no condition. -/
import Derived.Test.YtilenknaajikpaaGreatDoorP06
import Derived.Laws.DeepStrings4
set_option linter.all false
open Array renaming getD_eq_getD_getElem?->AE,replicate->AL,getElem?_append_left->AU,range->BP,ext'->BS
open Bool renaming and_eq_true->Ac,not_eq_true'->B0
open Go renaming TypeId->AA,Operand->AC,Program->AD,Value->AK,Oper->AN,FuncId->AR,ResultVar->AS,World->Ag,Edge->B1,Exit->BD,Tmp->BQ
open Go.Builtin renaming append_->Aq
open Go.Call renaming operands->AH
open Go.Ending renaming returned->Ar
open Go.Instr renaming fill->BR
open Go.Op renaming operands->A2
open Go.Oper renaming upon_enter->Af,wp->BM
open Go.Operand renaming tmp->B6
open Go.Result renaming andThen_ok->AG
open Go.RowKit renaming Below->BJ
open Go.Sem renaming run_bind->A8,run_pure->AZ,run_pure'->BH
open Go.Value.slice renaming injEq->BT
open Int renaming le_refl->BO
open List renaming getElem?_eq_getElem->A1,getElem?_map->A3,mem_iff_getElem?->A5,getElem?_eq_some_iff->A6,replicate->AF,getElem?_set_self->AQ,mem_of_mem_take->AT,all_eq_true->AW,getElem?_cons_succ->AY,mk_mem_zipIdx_iff_getElem?->Aa,getElem_mem->Ab,mem_of_mem_drop->Ae,getElem?_append_right->Ah,getElem?_drop->Ai,getElem?_append_left->Aj,map_cons->Ak,map_toArray->Al,length_cons->Am,mem_flatMap->An,getElem?_set_ne->Au,mem_cons_of_mem->Av,mem_of_getElem?->Ax,getElem?_range->Ay,map_nil->Az,not_mem_nil->B3,take_length->B4,length->B5,nodup_cons->B9,range->BB,mem_range->BC,take_zero->BE,drop_zero->BF,mem_cons->BG,take_nil->BI,map->BU
open Nat renaming le_of_ble_eq_true->A4,blt->AI,ble->AJ,le_mul_of_pos_right->AO,le_refl->AP,div_lt_of_lt_mul->Ad,mul_comm->Ao,sub_zero->Ap,mul_le_mul_right->As,mod_eq_of_lt->B2,mul_add_mod->B7,div_add_mod->B8,mod_lt->BA,beq->BK,add_zero->BL,lt_or_ge->BN
open Option renaming map_eq_some_iff->A7,map_some->AB,map_none->AM,bind_eq_some_iff->AX
open Option.some renaming inj->A0,injEq->A9
namespace Go.Proofs.YtilenknaajikpaaGreatDoor
noncomputable section
section
open Go.RowKit
namespace Aw
variable{E:TyF}{T:AA}{k sz:Nat}{w:Ag}{σ:Sg}{B:Bs}{c:Bool}{x:AC}
variable{P:AD}
section
variable{dst:Option BQ}{ty:AA}{pos:String}{after:Array B1}{gd:Option (Nat×Bool)}{env:List (Nat×AV)}{H:List Blk}
theorem Qow(z:Array AK)(n sz i j:Nat)(hz:z.size=sz)(hi:i<n)(hj:j<sz):(madeCells z (n*sz))[i*sz+j]? =z[j]? :=by
 have hlt:i*sz+j<n*sz:=by
  have h2:(i+1)*sz<=n*sz:=As sz (by omega)
  grind
 have hm:(i*sz+j)%z.size=j:=by rw[hz,Ao,B7,B2 hj]
 unfold madeCells
 grind
theorem Qi1{e:AA}{F:TyF}{u v:AC}{k1 k2:IntKind}{n:Nat}(hT:tyf P T=some F)(he:F.elem=some e)(hE:tyf P e=some E)(hu:aval env u= .d (.v (.int k1 (n:Int))))(hv:aval env v= .d (.v (.int k2 (n:Int))))
 (hz:E.zero.length=E.size) (hb:E.bytes*n<=281474976710656) (hm:n<=140737488355328):
 Loc P ⟨dst,.makeSlice T u v,ty,pos,after,gd⟩ env H (.osl H.length 0 0 n) (some (.arr 0 E.size e (AF n (E.zero.map D.v)))):=
 QrP (by simp) (fun r hr=>by grind) fun σ S H' a w hop=>by
  have h1:=AV.conc_rel (hop u (by simp[A2])) (y:= .int k1 (n:Int)) (by rw[hu];rfl);have h2:=AV.conc_rel (hop v (by simp[A2])) (y:= .int k2 (n:Int)) (by rw[hv];rfl);obtain⟨d,i,z,_,hi,hzz,hs,hby,hzl,_⟩:=Qea hE;have hzs:z.cells.size=E.size:=by grind
  have hr:=run_make (P:=P) w T e i z (QdD hT he) hi hzz k1 k2 n n (by omega) (BO _) (by grind) (by omega);simp only[Int.toNat_natCast] at hr;refine⟨madeCells z.cells (n*i.size),?_,by rw[size_madeCells,hs],by unfold maxLen;omega,fun a b r d ha hb=>?_⟩
  ·simp only[execOp,h1,h2,A8,hr];rfl
  ·have hal:a<n:=by grind
   rw[List.getElem?_replicate,if_pos hal] at ha;obtain rfl:=A0 ha;rw[A3] at hb;cases hzb:E.zero[b]? with
   |none=>grind
   |some c=>
    rw[hzb] at hb;obtain rfl:=A0 hb;have hbl:b<E.size:=by grind
    refine⟨c,?_,.v _⟩;rw[hs,Qow z.cells n E.size a b hzs hal hbl]
    grind
def chunk(sz:Nat):Nat->List AV->Option (List (List D))
 |0,[]=>some []
 |0,_::_=>none
 |n+1,l=>match allD (l.take sz),chunk sz n (l.drop sz) with
  |some r,some rs=>if r.length=sz then some (r::rs) else none
  |_,_=>none
theorem Qh5{sz:Nat}: ∀{n:Nat} {l:List AV} {rows:List (List D)},chunk sz n l=some rows->rows.length=n/\(∀r∈rows,r.length=sz)/\ ∀(i j:Nat) r d,rows[i]? =some r->r[j]? =some d->l[i*sz+j]? =some (.d d)
 |0,[],rows,h=>by simp[chunk] at h;grind
 |0,_::_,rows,h=>by simp[chunk] at h
 |n+1,l,rows,h=>by
  simp only[chunk] at h;cases h1:allD (l.take sz) with
  |none=>grind
  |some r=>
   cases h2:chunk sz n (l.drop sz) with
   |none=>grind
   |some rs=>
    rw[h1,h2] at h;simp only at h;split at h;rotate_left
    ·cases h
    rename_i hrs;obtain rfl:=A0 h;obtain⟨h3,h4,h5⟩:=Qh5 h2;refine⟨by simp[h3],fun r' hr'=>?_,fun i j r' d hi hj=>?_⟩
    ·grind
    ·cases i with
     |zero=>
      simp at hi;subst hi;have he:=QfU h1;have hjl:j<sz:=by grind
      have:(l.take sz)[j]? =some (.d d):=by grind
      grind
     |succ i=>
      grind
theorem QgJ{e:AA}{F:TyF}{n:Nat}{parts:Array (Nat×AC)}{res:List AV}(hT:tyf P T=some F)(he:F.elem=some e)(hE:tyf P e=some E)
 (hz:E.zero.length=E.size) (hr:fillA (fun i=>some (i*E.size,E.size)) env (AF n (E.zero.map fun v=>AV.d (.v v))).flatten parts.toList=some res)
 (hm:n*E.size<=16777216) (hn:n<=16777216) (σ:Sg) (S:Nat->Prop) (H':List Blk) (a:Act) (w:Ag) (hop: ∀u∈(⟨dst,.buildSlice T n parts,ty,pos,after,gd⟩:AN).op.operands,Rel σ S H' w (aval env u) (a.eval u)):
 ∃cs,(execOp a.eval ⟨dst,.buildSlice T n parts,ty,pos,after,gd⟩).run P w= .ok (.value (.slice (some ⟨w.heap.size,0,none⟩) n n)) (w.alloc (.cells cs e))/\cs.size=n*E.size/\n<=maxLen/\
  ∀(j:Nat) x,res[j]? =some x-> ∃v,cs[j]? =some v/\Rel σ S H' w x v:=by
 obtain⟨d,i,z,hd,hi,hzz,hs,hby,hzl,_⟩:=Qea hE;have hzs:z.cells.size=E.size:=by grind
 have hflen: ∀m,(AF m (E.zero.map fun v=>AV.d (.v v))).flatten.length=m*E.size:=fun m=>by
  simp_all
 have hfget: ∀(m j:Nat) x,(AF m (E.zero.map fun v=>AV.d (.v v))).flatten[j]? =some x-> ∃v,(madeCells z.cells (m*E.size))[j]? =some v/\x= .d (.v v):=by
  intro m j x hx;have hjl:j<m*E.size:=by grind
  have hpos:0<E.size:=by
   grind
  have hq:j=(j/E.size)*E.size+j%E.size:=by rw[Ao];exact(B8 j E.size).symm
  have hmod:=BA j hpos;have hdiv:j/E.size<m:=Ad (by grind)
  have key: ∀(m q:Nat),q<m-> ∀t,t<E.size->(AF m (E.zero.map fun v=>AV.d (.v v))).flatten[q*E.size+t]? =(E.zero.map fun v=>AV.d (.v v))[t]? :=by
   intro m;induction m with
   |zero=>omega
   |succ m ih=>
    intro q hq t ht;rw[List.replicate_succ,List.flatten_cons];cases q with
    |zero=>grind
    |succ q=>
     rw[Ah (by grind)];have:(q+1)*E.size+t -(E.zero.map fun v=>AV.d (D.v v)).length=q*E.size+t:=by grind
     grind
  rw[hq,key m _ hdiv _ hmod,A3] at hx;cases hzb:E.zero[j%E.size]? with
  |none=>grind
  |some c=>
   rw[hzb] at hx;obtain rfl:=A0 hx;refine⟨c,?_,rfl⟩;rw[hq,Qow z.cells m E.size _ _ hzs hdiv hmod]
   grind
 obtain⟨cs',h1,h2,h3⟩:=QoD (env:=env) (σ:=σ) (S:=S) (H':=H') (a:=a) (w:=w) (pl:=fun i=>some (i*E.size,E.size)) parts.toList _ (madeCells z.cells (n*E.size)) res
  (fun p hp=>hop p.2 (by simp only[A2];grind)) hr (by rw[hflen,size_madeCells]) (fun j x hx=>by
    obtain⟨v,hv,rfl⟩:=hfget n j x hx
    exact⟨v,hv,.d _ _ (.v _)⟩)
 have hlen:res.length=n*E.size:=by
  have: ∀(ps:List (Nat×AC)) (cells r:List AV),fillA (fun i=>some (i*E.size,E.size)) env cells ps=some r->r.length=cells.length:=by
   intro ps;induction ps with
   |nil=>intro cells r h;simp[fillA] at h;rw[h]
   |cons p ps ih=>
    intro cells r h;simp only[fillA] at h;cases hcl:(aval env p.2).cells with
    |none=>grind
    |some l=>
     rw[hcl] at h;simp only at h;cases hb:(BK l.length E.size&&AJ (p.1*E.size+l.length) cells.length) with
     |false=>grind
     |true=>
      rw[hb] at h;rw[ih _ _ h,QlH]
  grind
 refine⟨cs',?_,by omega,by unfold maxLen;omega,h3⟩
 ·have hi':i.size=E.size:=hs
  simp only[execOp,Instr.buildSlice,A8,run_underlying (QdD hT he),AG,Qeb hE];rw[if_neg (by omega)]
  by_cases h0:n*E.size=0
  ·rw[if_pos h0]
   simp only[A8,AZ,AG];have hm0:madeCells z.cells (n*E.size)=((BP (n*E.size)).map fun x=>(#[]:Array AK)[x%(#[]:Array AK).size]!):=by rw[h0];simp[madeCells,Array.range_zero']
   rw[<-hm0];have h1':BR (fun i=>some (i*E.size,E.size)) (madeCells z.cells (n*E.size)) (parts.map fun x=>(x.1,a.eval x.2)).toList=some cs':=by simp_all
   rw[h1'];simp[newRow]
  ·rw[if_neg h0]
   have hzr:(zeroValue e).run P w= .ok z w:=by simp[zeroValue,typeInfo,hi,hzz]
   simp only[A8,hzr,AZ,AG];have h1':BR (fun i=>some (i*E.size,E.size)) ((BP (n*E.size)).map fun x=>z.cells[x%z.cells.size]!) (parts.map fun x=>(x.1,a.eval x.2)).toList=some cs':=by rw[<-h1];simp[madeCells]
   rw[h1'];simp[newRow]
theorem QgK{e:AA}{F:TyF}{n:Nat}{parts:Array (Nat×AC)}{res:List AV}{rows:List (List D)}(hT:tyf P T=some F)(he:F.elem=some e)(hE:tyf P e=some E)
 (hz:E.zero.length=E.size) (hr:fillA (fun i=>some (i*E.size,E.size)) env (AF n (E.zero.map fun v=>AV.d (.v v))).flatten parts.toList=some res) (hc:chunk E.size n res=some rows)
 (hm:n*E.size<=16777216) (hn:n<=16777216) (σ:Sg) (S:Nat->Prop) (H':List Blk) (a:Act) (w:Ag) (hop: ∀u∈(⟨dst,.buildSlice T n parts,ty,pos,after,gd⟩:AN).op.operands,Rel σ S H' w (aval env u) (a.eval u)):
 ∃cs,(execOp a.eval ⟨dst,.buildSlice T n parts,ty,pos,after,gd⟩).run P w= .ok (.value (.slice (some ⟨w.heap.size,0,none⟩) n n)) (w.alloc (.cells cs e))/\cs.size=n*E.size/\n<=maxLen/\
  ∀(i j:Nat) r d,rows[i]? =some r->r[j]? =some d-> ∃v,cs[i*E.size+j]? =some v/\RelD S w d v:=by
 obtain⟨hrl,hrs,hrg⟩:=Qh5 hc;obtain⟨cs,h1,h2,h3,h4⟩:=QgJ (dst:=dst) (ty:=ty) (pos:=pos) (after:=after) (gd:=gd) hT he hE hz hr hm hn σ S H' a w hop;refine⟨cs,h1,h2,h3,fun q j r d hq hj=>?_⟩;obtain⟨v,hv,hrel⟩:=h4 _ _ (hrg q j r d hq hj);cases hrel with
 |d _ _ h=>grind
def QjM{e:AA}{F:TyF}{n:Nat}{parts:Array (Nat×AC)}{res:List AV}{rows:List (List D)}(hT:tyf P T=some F)(he:F.elem=some e)(hE:tyf P e=some E)
 (hz:E.zero.length=E.size) (hr:fillA (fun i=>some (i*E.size,E.size)) env (AF n (E.zero.map fun v=>AV.d (.v v))).flatten parts.toList=some res) (hc:chunk E.size n res=some rows)
 (hm:n*E.size<=16777216) (hn:n<=16777216):Loc P ⟨dst,.buildSlice T n parts,ty,pos,after,gd⟩ env H (.osl H.length 0 0 n) (some (.arr 0 E.size e rows)):=by
 obtain⟨hrl,hrs,hrg⟩:=Qh5 hc;exact QrP hrl hrs (QgK hT he hE hz hr hc hm hn)
end
def QiL(w:Ag)(t ty e:AA)(i:TypeInfo)(ht:P.underlying t=some (.slice e))(hi:P.info? e=some i)(b:Option Addr)(n cap:Nat)(hn:n<=cap)(ax:Option Addr)(c:Nat):
 (Aq #[t,t] ty #[.slice b n cap,.slice ax 0 c]).run P w= .ok (.slice b n cap) w:=by
 cases ax<;>cases b<;>simp[Aq,run_underlying ht,sizeOf,typeInfo,hi,Builtin.lenOf,Builtin.firstCells,loadCells,loadCellsFrom,storeCells,hn]
theorem Sm.bump{S:Nat->Prop}{H:List Blk}{g:Nat}{rows:List (List D)}(h:Sm B σ S H w)(hC:H[k]? =some (.arr g sz T rows)):
 Sm B σ S (H.set k (.arr (g+1) sz T rows)) w/\Ev σ S H w σ S (H.set k (.arr (g+1) sz T rows)) w:=by
 have hkl:k<H.length:=(A6.1 hC).1
 have e:Ev σ S H w σ S (H.set k (.arr (g+1) sz T rows)) w:=by
  refine⟨fun _ h=>h,fun _ _=>rfl,fun j g' cells hD=>?_,fun j g' sz' T' rows' hD=>?_,fun j g' l hD=>?_⟩
  ·grind
  ·grind
  grind
 refine⟨⟨h.os,h.tape,h.output,h.size,h.keep,h.sLo,h.sUp,fun k' b hk=>h.σUp k' b (by grind),fun k1 k2 b h1 h2=>h.inj k1 k2 b (by grind) (by grind),fun j D hD=>?_⟩,e⟩
 by_cases hj:j=k
 ·subst hj
  rw[AQ hkl] at hD;obtain rfl:=A0 hD;exact h.blk j _ hC
 ·rw[Au (fun e=>hj e.symm)] at hD
  exact(h.blk j D hD).mono e rfl fun b _=>rfl
theorem RelD.sl_cells{S:Nat->Prop}{n:Nat}{rows:List (List D)}{v:AK}(h:RelD S w (.sl c n rows) v)(hcell: ∀r∈rows,∀d∈r,d.cell=true):
 ∃ax cap,v= .slice ax rows.length cap/\(0<rows.length-> ∃a news,ax=some a/\Flat n rows (RelD S w) news/\(∀(j:Nat) u,news[j]? =some u->w.cell? (a.add j)=some u)/\ ∀u∈news,u.oneCell'=true):=by
 cases h with
 |slnil c n a cap=>simp
 |sl c n l b o cap g hS hn hcap hc hr=>
  refine⟨some ⟨b,o,none⟩,cap,rfl,fun hpos=>⟨⟨b,o,none⟩,(BB (rows.length*n)).map fun t=>g (t/n) (t%n),rfl,⟨by simp,hn,fun i j r d hi hj=>?_⟩,fun j u hu=>?_,fun u hu=>?_⟩⟩
  ·have hil:i<rows.length:=(A6.1 hi).1
   have hjl:j<n:=by grind
   have hlt:i*n+j<rows.length*n:=by
    have h2:(i+1)*n<=rows.length*n:=As n (by omega)
    grind
   refine⟨g i j,?_,hr i j r d hi hj⟩;rw[A3,Ay hlt];have h1:(i*n+j)/n=i:=by rw[Ao,Nat.mul_add_div (by omega),Nat.div_eq_of_lt hjl];omega
   have h2:(i*n+j)%n=j:=by rw[Ao,B7,B2 hjl]
   grind
  ·have key: ∀t,t<rows.length*n-> ∃r d,rows[t/n]? =some r/\r[t%n]? =some d:=fun t ht=>by
    have hpos:0<n:=by
     grind
    have hi:t/n<rows.length:=Ad (by grind);have hj:t%n<(rows[t/n]).length:=by rw[hn _ (Ab hi)];exact BA _ hpos
    simp_all
   rw[A3] at hu
   have hjl:j<rows.length*n:=by
    grind
   rw[Ay hjl] at hu;simp only[AB,A9] at hu;subst hu;obtain⟨r,d,h1,h2⟩:=key j hjl;have:=hc _ _ r d h1 h2;rw[Qef,<-this]
   congr 2
   have:=B8 j n
   grind
  ·obtain⟨t,ht,rfl⟩:=List.mem_map.1 hu
   have htl:=BC.1 ht
   have hpos':0<n:=by
    grind
   have hi:t/n<rows.length:=Ad (by grind);have hj:t%n<(rows[t/n]).length:=by rw[hn _ (Ab hi)];exact BA _ hpos'
   exact D.cell_one (hr _ _ _ _ (A1 hi) (A1 hj)) (hcell _ (Ab hi) _ (Ab hj))
theorem OSl.cells{S:Nat->Prop}{H:List Blk}{g off len:Nat}{rows:List (List D)}{v:AK}(hS:Sm B σ S H w)(hk:H[k]? =some (.arr g sz T rows))(h:OSl σ w k sz rows.length off len v)
 (hcell: ∀r∈rows,∀d∈r,d.cell=true):
 ∃ax cap,v= .slice ax len cap/\(0<len-> ∃a news,ax=some a/\Flat sz ((rows.drop off).take len) (RelD S w) news/\(∀(j:Nat) u,news[j]? =some u->w.cell? (a.add j)=some u)/\ ∀u∈news,u.oneCell'=true):=by
 obtain⟨hb,hv⟩:=h;obtain⟨hlen,hbk⟩:=hS.blk k _ hk;rcases hv with⟨b,cap,cs,T',hσ,hl,hcm,rfl,hc,hs⟩|⟨hσ,rfl,rfl⟩;rotate_left
 ·grind
 rcases hbk with⟨b',cs',hσ',hc',hrel⟩|⟨hσ',_⟩;rotate_left
 ·grind
 rw[hσ] at hσ';obtain rfl:=A0 hσ';have hln:((rows.drop off).take len).length=len:=by grind
 have hmem: ∀(i:Nat) r,((rows.drop off).take len)[i]? =some r->rows[off+i]? =some r:=fun i r hi=>by
  grind
 have key: ∀(i j:Nat) r d,((rows.drop off).take len)[i]? =some r->r[j]? =some d-> ∃u,cs'[off*sz+i*sz+j]? =some u/\RelD S w d u:=by
  grind
 have hfin:RelD (fun x=>S x∨x=b) w (.sl false sz ((rows.drop off).take len)) (.slice (some ⟨b,off*sz,none⟩) ((rows.drop off).take len).length cap):=by
  refine .sl false sz _ b (off*sz) cap (fun i j=>(cs'[off*sz+i*sz+j]?).getD undef) (.inr rfl) (fun r hr'=>?_) (fun h=>by cases h) (fun i j r d hi hj=>?_) fun i j r d hi hj=>?_
  ·grind
  ·obtain⟨u,hu,_⟩:=key i j r d hi hj
   rw[cell_of_row w b _ cs' T (0,0) hc',hu];rfl
  ·obtain⟨u,hu,hr'⟩:=key i j r d hi hj
   rw[hu];exact hr'.mono (fun _ h=> .inl h) fun _ _=>rfl
 rw[hln] at hfin;obtain⟨ax,cap',h1,h2⟩:=hfin.sl_cells (fun r hr d hd=>hcell r (Ae (AT hr)) d hd);rw[hln] at h1 h2;refine⟨ax,cap',h1,fun hpos=>?_⟩;obtain⟨a,news,h3,h4,h5,h6⟩:=h2 hpos;injection h1 with e1 e2 e3;subst h3;have e1':=A0 e1;subst e1';refine⟨_,news,rfl,⟨h4.1,h4.2.1,fun i j r d hi hj=>?_⟩,h5,h6⟩;obtain⟨u,hu,_⟩:=h4.2.2 i j r d hi hj;refine⟨u,hu,?_⟩;obtain⟨u',hu',hr'⟩:=key i j r d hi hj;have h7:=h5 _ u hu;rw[Qef,cell_of_row w b _ cs' T (0,0) hc'] at h7
 grind
theorem Qjz{e:AA}{F:TyF}{s:AC}{g len:Nat}{rows newrows:List (List D)}{dst:Option BQ}{ty:AA}{pos:String}{after:Array B1}{gd:Option (Nat×Bool)}{env:List (Nat×AV)}{H:List Blk}
 (hT:tyf P T=some F) (he:F.elem=some e) (hE:tyf P e=some E) (hz:E.zero.length=E.size) (hpos:0<E.size)
 (hs:aval env s= .osl k g 0 len) (hk:H[k]? =some (.arr g E.size e rows)) (hlen:len=rows.length)
 (hx: ∀B σ S w v,Sm B σ S H w->Rel σ S H w (aval env x) v-> ∃ax cap,v= .slice ax newrows.length cap/\(0<newrows.length-> ∃a news,ax=some a/\Flat E.size newrows (RelD S w) news/\(∀(j:Nat) u,news[j]? =some u->w.cell? (a.add j)=some u)/\ ∀u∈news,u.oneCell'=true))
 (hb:(rows.length+newrows.length)*E.bytes<=140737488355328) (hm:rows.length+newrows.length<=140737488355328):
 Eff P ⟨dst,.call ⟨.builtin .append, #[s,x], #[T,T]⟩,ty,pos,after,gd⟩ env H (.osl k (g+1) 0 (rows.length+newrows.length)) (H.set k (.arr (g+1) E.size e (rows++newrows))):=by
 intro B σ S a w hB hS hop K Q kk;have hkl:k<H.length:=(A6.1 hk).1;have h1:=hop s (by simp[A2,AH]);have h2:=hop x (by simp[A2,AH]);rw[hs] at h1;subst hlen;generalize hv:a.eval s=v at h1;obtain⟨ax,c,hxv,hnews⟩:=hx B σ S w _ hS h2;obtain⟨d,i,z,hd,hi,hzz,hsz,hby,hzl,_⟩:=Qea hE;have hzs:z.cells.size=E.size:=by grind
 have hu:=QdD hT he
 have hexec: ∀v' w',(Aq #[T,T] ty #[v,.slice ax newrows.length c]).run P w= .ok v' w'->(execOp a.eval ⟨dst,.call ⟨.builtin .append, #[s,x], #[T,T]⟩,ty,pos,after,gd⟩).run P w= .ok (.value v') w':=fun v' w' hr=>by
  simp only[execOp,resolve,invoke,builtin,A8,AZ,AG,Al,Ak,Az,hv,hxv,hr]
 cases h1 with
 |osl _ _ _ _ _ _ g' sz' T' rows' hk' hg hh=>
  rw[hk] at hk';obtain⟨rfl,rfl,rfl,rfl⟩:g=g'/\E.size=sz'/\e=T'/\rows=rows':=by grind
  have hos:=hh rfl;rcases Nat.eq_zero_or_pos newrows.length with h0|hnpos
  ·have hnil:newrows=[]:=List.eq_nil_of_length_eq_zero h0
   subst hnil;obtain⟨h3,h4⟩:=hS.bump hk
   have hr: ∃b cap,v= .slice b rows.length cap/\rows.length<=cap:=by
    rcases hos.2 with⟨b,cap,cs,T',hσ,hl,hcm,rfl,hc,hs⟩|⟨hσ,hl,rfl⟩
    ·grind
    grind
   obtain⟨b,cap,hvv,hcap⟩:=hr;have hrun:=QiL (P:=P) w T ty e i hu hi b rows.length cap hcap ax c;rw[<-hvv] at hrun;refine QgE (hexec _ _ hrun) (kk _ w σ S (by grind) ?_ (by grind));simp only[List.length_nil,BL,List.append_nil];refine .osl k (g+1) 0 rows.length _ (by omega) (g+1) E.size e rows (AQ hkl) (AP _) fun _=>hos
  ·obtain⟨aa,news,rfl,hfl,hcells,hone⟩:=hnews hnpos
   obtain⟨v',w',σ',hr,h3,h4,h5⟩:=hS.append (P:=P) (ty:=ty) (c:=c) hk hos hpos hu hi hzz hsz hzs hcells hone hfl (by grind) hm;refine QgE (hexec _ _ hr) (kk _ w' σ' S h3 ?_ h4);refine .osl k (g+1) 0 _ _ ?_ (g+1) E.size e (rows++newrows) (AQ hkl) (AP _) fun _=>by grind
   rcases h5.2 with⟨b,cap,cs,T',_,_,_,rfl,_⟩|⟨_,_,rfl⟩<;>rfl
def QqV{env:List (Nat×AV)}{H:List Blk}{n:Nat}{rows:List (List D)}(hx:aval env x= .d (.sl c n rows))(hcell: ∀r∈rows,∀d∈r,d.cell=true):
 ∀B σ S w v,Sm B σ S H w->Rel σ S H w (aval env x) v-> ∃ax cap,v= .slice ax rows.length cap/\(0<rows.length-> ∃a news,ax=some a/\Flat n rows (RelD S w) news/\(∀(j:Nat) u,news[j]? =some u->w.cell? (a.add j)=some u)/\ ∀u∈news,u.oneCell'=true):=
 fun B σ S w v _ h=>by
  rw[hx] at h;cases h with
  |d _ _ h=>exact h.sl_cells hcell
theorem QqW{env:List (Nat×AV)}{H:List Blk}{g len:Nat}{rows:List (List D)}(hx:aval env x= .osl k g 0 len)(hk:H[k]? =some (.arr g sz T rows))(hlen:len=rows.length)(hcell: ∀r∈rows,∀d∈r,d.cell=true):
 ∀B σ S w v,Sm B σ S H w->Rel σ S H w (aval env x) v-> ∃ax cap,v= .slice ax rows.length cap/\(0<rows.length-> ∃a news,ax=some a/\Flat sz rows (RelD S w) news/\(∀(j:Nat) u,news[j]? =some u->w.cell? (a.add j)=some u)/\ ∀u∈news,u.oneCell'=true):=
 fun B σ S w v hS h=>by
  subst hlen;rw[hx] at h;cases h with
  |osl _ _ _ _ _ _ g' sz' T' rows' hk' hg hh=>
   rw[hk] at hk';obtain⟨rfl,rfl,rfl,rfl⟩:g=g'/\sz=sz'/\T=T'/\rows=rows':=by grind
   have:=OSl.cells hS hk (hh rfl) hcell
   grind
theorem Qfk(t sz:Nat)(T:AA){c:Code}{Q:BD->St->Prop}{n:Nat}{env:List (Nat×AV)}{H:List Blk}{P:AD}(ht:look env t= .d (.v (.slice none 0 0)):=by rfl)
 (h:AWP P c Q ⟨n,(t,.osl H.length 0 0 0)::env,H++[.arr 0 sz T []]⟩):AWP P c Q ⟨n,env,H⟩:=by
 refine QgD ?_ h;intro B σ S a w hA;obtain⟨h1,h2,h3⟩:=hA.sm.virt sz T;refine⟨_,S,h1,hA.defers,hA.size,fun u=>?_⟩
 by_cases hu:t=u
 ·subst hu
  show Rel _ _ _ _ (look ((t,_)::env) t) _;rw[Qdv];have:=AV.conc_rel (hA.env t) (y:= .slice none 0 0) (by show(look env t).conc=_;rw[ht];rfl)
  grind
 ·show Rel _ _ _ _ (look ((t,_)::env) u) _
  rw[Qd1 hu];exact(hA.env u).mono h2
end Aw
end
section
open Go.RowKit
namespace Pm
abbrev Ptr:=Pl.Ptr
abbrev Tree:=Pl.Tree
abbrev Space:=List Int×List Int
abbrev Store:=List Str×Space×Int×List Ptr×Int×List Ptr×Bool
def PtrIn(p:Ptr):Prop:=InI p.pat/\InI p.birth/\InI p.size/\InI p.sum/\InI p.level
def ptrL(p:Ptr):List AK:=[.int .i64 p.pat,.int .i64 p.birth,.int .i64 p.size,.int .i64 p.sum,.int .i64 p.level]
def treeL(t:Tree):List AK:=[.int .i64 t.root.pat,.int .i64 t.root.birth,.int .i64 t.root.size,.int .i64 t.root.sum,.int .i64 t.root.level,.int .i64 t.depth,.int .i64 t.many]
instance instRepPtr:Rep Pl.Ptr where
 size:=5
 cells _ _ cs p:=cs=ptrL p/\PtrIn p
 len h:=by rw[h.1];rfl
 keep h _ _:=h
end Pm
end
section
open Go.RowKit
namespace Aw
variable{E:TyF}{T T2 t1 t2:AA}{u y:AC}{k k2 g2 m k₀:Nat}{newrows:List (List D)}{w:Ag}{ρ:Nat->Nat}{σ σ':Sg}{H1 H0:List Blk}{gl args avs caps:List AV}{Q0:AV->List Blk->Prop}{o:AN}{rs:List AS}{c:Code}{tys:Array AA}{xs:Array AC}{t:BQ}{ds:List D}{i j:Int}{κ κ':IntKind}{env':List (Nat×AV)}{a₀:Option Addr}
variable{P:AD}
section
variable{ops:Array AN}{Q:BD->St->Prop}{K:St->Prop}{l:List AN}{n:Nat}{env:List (Nat×AV)}{H H':List Blk}{d:BQ}{op:Op}{ty:AA}{pos:String}{after:Array B1}{gd:Option (Nat×Bool)}{x x':AV}{C C':Blk}
def stepS2(hl:Loc P ⟨some d,op,ty,pos,after,gd⟩ env H x (some C))(hw:awanted ops env ⟨some d,op,ty,pos,after,gd⟩=some true:=by rfl)(hd:AI d n=true:=by rfl)(hg:gdOk ops n ⟨some d,op,ty,pos,after,gd⟩=true:=by rfl)
 (hX: ∀R:AV->Prop,R x'->R x:=by intro R hR;simp only[List.length_cons,List.length_nil,Nat.reduceAdd,Nat.zero_add];exact hR)
 (hH: ∀R:List Blk->Prop,R H'->R (H++[C]):=by intro R hR;simp only[List.cons_append,List.nil_append];exact hR)
 (k:ASeq P ops Q l ⟨n,(d,x')::env,H'⟩):ASeq P ops Q (⟨some d,op,ty,pos,after,gd⟩::l) ⟨n,env,H⟩:=
 s2 hl hd hg hw (by have h1:=hX (fun r=>r=x') rfl;have h2:=hH (fun r=>r=H') rfl;rw[h1,h2];exact k)
def stepD2(hl:Loc P ⟨some d,op,ty,pos,after,gd⟩ env H x (some C))(hw:awanted ops env ⟨some d,op,ty,pos,after,gd⟩=some true:=by rfl)(hd:AI d n=true:=by rfl)
 (hX: ∀R:AV->Prop,R x'->R x:=by intro R hR;simp only[List.length_cons,List.length_nil,Nat.reduceAdd,Nat.zero_add];exact hR)
 (hH: ∀R:List Blk->Prop,R H'->R (H++[C]):=by intro R hR;simp only[List.cons_append,List.nil_append];exact hR)
 (k:ADraw P ops K l ⟨n,(d,x')::env,H'⟩):ADraw P ops K (⟨some d,op,ty,pos,after,gd⟩::l) ⟨n,env,H⟩:=
 d2 hl hd hw (by have h1:=hX (fun r=>r=x') rfl;have h2:=hH (fun r=>r=H') rfl;rw[h1,h2];exact k)
def Qjd{dst:Option BQ}{e:AA}{F:TyF}{n:Nat}{parts:Array (Nat×AC)}{rows:List (List D)}(hT:tyf P T=some F)(he:F.elem=some e)(hE:tyf P e=some E)
 (hz:E.zero.length=E.size:=by rfl) (hc: ∀R:Option (List (List D))->Prop,R (some rows)->R ((fillA (fun i=>some (i*E.size,E.size)) env (AF n (E.zero.map fun v=>AV.d (.v v))).flatten parts.toList).bind (chunk E.size n)):=by
   intro R hR;simp only[go_sem,chunk,Option.bind_some,List.replicate_succ,List.replicate_zero,List.flatten_cons,List.flatten_nil,List.append_nil,List.cons_append,List.nil_append,Nat.zero_mul,Nat.reduceMul,Nat.reduceEqDiff,Nat.reduceAdd,Nat.reduceLT,Nat.reduceLeDiff,↓reduceIte,reduceCtorEq,List.take_nil,List.drop_nil];exact hR)
 (hm:AJ (n*E.size) 16777216=true:=by rfl) (hn:AJ n 16777216=true:=by rfl):Loc P ⟨dst,.buildSlice T n parts,ty,pos,after,gd⟩ env H (.osl H.length 0 0 n) (some (.arr 0 E.size e rows)):=by
 have h:=hc (fun r=>r=some rows) rfl;obtain⟨res,h1,h2⟩:=AX.1 h;exact QjM hT he hE hz h1 h2 (A4 hm) (A4 hn)
def QrN{dst:Option BQ}{e:AA}{F:TyF}{v:AC}{k1 k2:IntKind}{n:Nat}(hT:tyf P T=some F)(he:F.elem=some e)(hE:tyf P e=some E)(hu:aval env u= .d (.v (.int k1 (n:Int))))(hv:aval env v= .d (.v (.int k2 (n:Int))))
 (hz:E.zero.length=E.size:=by rfl) (hb:AJ (E.bytes*n) 281474976710656=true:=by rfl) (hm:AJ n 140737488355328=true:=by rfl):
 Loc P ⟨dst,.makeSlice T u v,ty,pos,after,gd⟩ env H (.osl H.length 0 0 n) (some (.arr 0 E.size e (AF n (E.zero.map D.v)))):=
 Qi1 hT he hE hu hv hz (A4 hb) (A4 hm)
theorem QoX{F:TyF}{v:AC}{g o:Nat}{cells lc:List AV} [hT:Ty P T F](hu:aval env u= .ptr k g o:=by rfl)(hk:H[k]? =some (.row g cells):=by rfl)
 (hv: ∀R:Option (List AV)->Prop,R (some lc)->R (aval env v).cells:=by intro R hR;simp only[go_sem,Nat.reduceEqDiff,Nat.reduceAdd,Nat.reduceLT,Nat.reduceLeDiff,↓reduceIte,reduceCtorEq];exact hR)
 (hone:lc.all AV.one=true:=by rfl) (hsz:lc.length=F.size:=by rfl) (hlen:AJ (o+lc.length) cells.length=true:=by rfl) (hw:awanted ops env ⟨none,.store T u v,ty,pos,after,gd⟩=some true:=by rfl) (hg:gdOk ops n ⟨none,.store T u v,ty,pos,after,gd⟩=true:=by rfl)
 (hH: ∀R:List Blk->Prop,R H'->R (H.set k (.row g (setAt cells o lc))):=by intro R hR;simp only[setAt,List.set_cons_zero,List.set_cons_succ,Nat.zero_add,Nat.reduceAdd];exact hR)
 (kk:ASeq P ops Q l ⟨n,env,H'⟩):ASeq P ops Q (⟨none,.store T u v,ty,pos,after,gd⟩::l) ⟨n,env,H⟩:=
 QjE (Qmr hT.h hu hk (hv (fun r=>r=some lc) rfl) hone hsz (A4 hlen)) hw hg (by have:=hH (fun r=>r=H') rfl;grind)
theorem cells1(r:List D)(h:r.all D.cell=true): ∀q∈[r],∀d∈q,d.cell=true:=fun q hq d hd=>by
 grind
theorem QU{e:AA}{F:TyF}{s x:AC}{g len:Nat}{rows:List (List D)}{r:List D}(hT:tyf P T=some F)(he:F.elem=some e)(hE:tyf P e=some E)(hz:E.zero.length=E.size:=by rfl)(hpos:AI 0 E.size=true:=by rfl)
 (hs:aval env s= .osl k g 0 len:=by rfl) (hk:H[k]? =some (.arr g E.size e rows):=by rfl) (hlen:len=rows.length:=by first|rfl|simp)
 (hx:aval env x= .osl k2 g2 0 1:=by rfl) (hk2:H[k2]? =some (.arr g2 E.size T2 [r]):=by rfl) (hcell:r.all D.cell=true:=by rfl)
 (hb:(rows.length+1)*E.bytes<=140737488355328) 
 (hw:awanted ops env ⟨some d,.call ⟨.builtin .append, #[s,x], #[T,T]⟩,ty,pos,after,gd⟩=some true:=by rfl) (hd:AI d n=true:=by rfl) (hg:gdOk ops n ⟨some d,.call ⟨.builtin .append, #[s,x], #[T,T]⟩,ty,pos,after,gd⟩=true:=by rfl)
 (hH: ∀R:List Blk->Prop,R H'->R (H.set k (.arr (g+1) E.size e (rows++[r]))):=by intro R hR;simp only[List.set_cons_zero,List.set_cons_succ,Nat.zero_add,Nat.reduceAdd];exact hR)
 (hby:AI 0 E.bytes=true:=by rfl)
 (kk:ASeq P ops Q l ⟨n,(d,.osl k (g+1) 0 (rows.length+1))::env,H'⟩):ASeq P ops Q (⟨some d,.call ⟨.builtin .append, #[s,x], #[T,T]⟩,ty,pos,after,gd⟩::l) ⟨n,env,H⟩:=by
 have hby':0<E.bytes:=by simpa using hby
 have hmul:rows.length+1<=(rows.length+1)*E.bytes:=AO _ hby';refine Qiv (Qjz (newrows:=[r]) hT he hE hz (by simp_all) hs hk hlen (QqW hx hk2 rfl (cells1 r hcell)) (by omega) (by simp;omega)) hw hd hg ?_;have:=hH (fun r=>r=H') rfl
 grind
theorem QdW{e:AA}{F:TyF}{s x:AC}{g len:Nat}{c:Bool}{rows:List (List D)}(hT:tyf P T=some F)(he:F.elem=some e)(hE:tyf P e=some E)(hz:E.zero.length=E.size:=by rfl)(hpos:AI 0 E.size=true:=by rfl)
 (hs:aval env s= .osl k g 0 len:=by rfl) (hk:H[k]? =some (.arr g E.size e rows):=by rfl) (hlen:len=rows.length:=by first|rfl|simp)
 (hx:aval env x= .d (.sl c E.size newrows):=by rfl) (hcell: ∀r∈newrows,∀d∈r,d.cell=true)
 (hb:(rows.length+newrows.length)*E.bytes<=140737488355328) 
 (hw:awanted ops env ⟨some d,.call ⟨.builtin .append, #[s,x], #[T,T]⟩,ty,pos,after,gd⟩=some true:=by rfl) (hd:AI d n=true:=by rfl) (hg:gdOk ops n ⟨some d,.call ⟨.builtin .append, #[s,x], #[T,T]⟩,ty,pos,after,gd⟩=true:=by rfl)
 (hH: ∀R:List Blk->Prop,R H'->R (H.set k (.arr (g+1) E.size e (rows++newrows))):=by intro R hR;simp only[List.set_cons_zero,List.set_cons_succ,Nat.zero_add,Nat.reduceAdd];exact hR)
 (hby:AI 0 E.bytes=true:=by rfl)
 (kk:ASeq P ops Q l ⟨n,(d,.osl k (g+1) 0 (rows.length+newrows.length))::env,H'⟩):ASeq P ops Q (⟨some d,.call ⟨.builtin .append, #[s,x], #[T,T]⟩,ty,pos,after,gd⟩::l) ⟨n,env,H⟩:=by
 have hby':0<E.bytes:=by simpa using hby
 have hmul:rows.length+newrows.length<=(rows.length+newrows.length)*E.bytes:=AO _ hby';refine Qiv (Qjz (newrows:=newrows) hT he hE hz (by simp_all) hs hk hlen (QqV hx hcell) hb (by omega)) hw hd hg ?_;have:=hH (fun r=>r=H') rfl
 grind
end
variable{P:AD}
mutual
def D.weak:D->D
 |.sl _ n l=> .sl false n l
 |.agg l=> .agg (D.weakL l)
 |.tup l=> .tup (D.weakL l)
 |.pd l=> .pd (D.weakL l)
 |x=>x
def D.weakL:List D->List D
 |[]=>[]
 |x::r=>D.weak x::D.weakL r
end
def D.weakL_get: ∀(l:List D) (i:Nat),(D.weakL l)[i]? =l[i]?.map D.weak
 |[],i=>by simp[D.weakL]
 |x::r,0=>by simp[D.weakL]
 |x::r,i+1=>by simp only[D.weakL,AY];exact D.weakL_get r i
def D.weakL_len: ∀(l:List D),(D.weakL l).length=l.length
 |[]=>rfl
 |x::r=>by simp only[D.weakL,Am];rw[D.weakL_len r]
theorem Qfn{l:List D}{i:Nat}{d:D}(h:(D.weakL l)[i]? =some d): ∃d0,l[i]? =some d0/\d=d0.weak:=by
 rw[D.weakL_get] at h
 grind
theorem RelD.weak{S:Nat->Prop}{d:D}{x:AK}(h:RelD S w d x):RelD S w d.weak x:=by
 induction h with
 |any x=>exact .any x
 |v x=>exact .v x
 |agg l cs hl h ih=>exact .agg _ cs (by rw[D.weakL_len];exact hl) fun i d x hd hx=>by obtain⟨d0,h1,rfl⟩:=Qfn hd;exact ih i d0 x h1 hx
 |tup l cs hl h ih=>exact .tup _ cs (by rw[D.weakL_len];exact hl) fun i d x hd hx=>by obtain⟨d0,h1,rfl⟩:=Qfn hd;exact ih i d0 x h1 hx
 |pd l b o g hb hc h ih=>
  exact .pd _ b o g hb (fun j d hj=>by obtain⟨d0,h1,rfl⟩:=Qfn hj;grind) (fun j d hj=>by obtain⟨d0,h1,rfl⟩:=Qfn hj;grind)
 |slnil c n a cap=>exact .slnil false n a cap
 |sl c n l b o cap g hb hn hcap hc h ih=>exact .sl false n l b o cap g hb hn (fun h=>by cases h) hc h
 |mp l b es clock hb hm hl hk h ih=>exact .mp l b es clock hb hm hl hk h
theorem Pure.arg{f:AR}{l l':List D}{x:D}(h:Pure P f l' x)(ha:D.weakL l=l':=by rfl):Pure P f l x:=by
 intro B σ S H w cargs hB hS hl hr;subst ha;exact h B σ S H w cargs hB hS (by rw[D.weakL_len];exact hl) fun i d v hd hv=>by obtain⟨d0,h1,rfl⟩:=Qfn hd;exact(hr i d0 v h1 hv).weak
mutual
def AV.ren(ρ:Nat->Nat):AV->AV
 |.d x=> .d x
 |.agg l=> .agg (AV.renL ρ l)
 |.tup l=> .tup (AV.renL ρ l)
 |.ptr k g o=> .ptr (ρ k) g o
 |.ept k g i j=> .ept (ρ k) g i j
 |.osl k g off len=> .osl (ρ k) g off len
 |.rsl k g n=> .rsl (ρ k) g n
 |.fn f l=> .fn f (AV.renL ρ l)
 |.gh l vs=> .gh (AV.renL ρ l) vs
 |.mp k g=> .mp (ρ k) g
def AV.renL(ρ:Nat->Nat):List AV->List AV
 |[]=>[]
 |x::r=>AV.ren ρ x::AV.renL ρ r
end
def AV.renL_get(ρ:Nat->Nat): ∀(l:List AV) (i:Nat),(AV.renL ρ l)[i]? =l[i]?.map (AV.ren ρ)
 |[],i=>by simp[AV.renL]
 |x::r,0=>by simp[AV.renL]
 |x::r,i+1=>by simp only[AV.renL,AY];exact AV.renL_get ρ r i
def AV.renL_len(ρ:Nat->Nat): ∀(l:List AV),(AV.renL ρ l).length=l.length
 |[]=>rfl
 |x::r=>by simp only[AV.renL,Am];rw[AV.renL_len ρ r]
theorem QeP{l:List AV}{i:Nat}{d:AV}(h:(AV.renL ρ l)[i]? =some d): ∃d0,l[i]? =some d0/\d=d0.ren ρ:=by
 rw[AV.renL_get] at h
 grind
def Blk.ren(ρ:Nat->Nat):Blk->Blk
 |.row g cells=> .row g (AV.renL ρ cells)
 |x=>x
theorem Rel.up{S:Nat->Prop}{H H':List Blk}(hm: ∀i C,H[i]? =some C->H'[ρ i]? =some (C.ren ρ)/\σ' (ρ i)=σ i){x:AV}{v:AK}(h:Rel σ S H w x v):
 Rel σ' S H' w (x.ren ρ) v:=by
 induction h with
 |d x v h=>exact .d x v h
 |agg l cs hl h ih=>exact .agg _ cs (by rw[AV.renL_len];exact hl) fun i d x hd hx=>by obtain⟨d0,h1,rfl⟩:=QeP hd;exact ih i d0 x h1 hx
 |tup l cs hl h ih=>exact .tup _ cs (by rw[AV.renL_len];exact hl) fun i d x hd hx=>by obtain⟨d0,h1,rfl⟩:=QeP hd;exact ih i d0 x h1 hx
 |fn f l cs hl h ih=>exact .fn f _ cs (by rw[AV.renL_len];exact hl) fun i d x hd hx=>by obtain⟨d0,h1,rfl⟩:=QeP hd;exact ih i d0 x h1 hx
 |gh l cs u hl h ih=>exact .gh _ cs u (by rw[AV.renL_len];exact hl) fun i d x hd hx=>by obtain⟨d0,h1,rfl⟩:=QeP hd;exact ih i d0 x h1 hx
 |ptr k g o v ho g' cells hk hg h=>
  obtain⟨h1,h2⟩:=hm k _ hk;exact .ptr (ρ k) g o v ho g' _ h1 hg fun e=>by grind
 |rsl k g n v ho g' cells hk hg h=>
  obtain⟨h1,h2⟩:=hm k _ hk;exact .rsl (ρ k) g n v ho g' _ h1 hg fun e=>by grind
 |ept k g i j v ho g' sz T rows hk hg h=>
  obtain⟨h1,h2⟩:=hm k _ hk;exact .ept (ρ k) g i j v ho g' sz T rows h1 hg fun e=>by grind
 |osl k g off len v ho g' sz T rows hk hg h=>
  obtain⟨h1,h2⟩:=hm k _ hk;refine .osl (ρ k) g off len v ho g' sz T rows h1 hg fun e=>?_
  unfold OSl;rw[h2];exact h e
 |mp k g v ho g' l hk hg h=>
  obtain⟨h1,h2⟩:=hm k _ hk;exact .mp (ρ k) g v ho g' _ h1 hg fun e=>by grind
theorem Rel.down{S:Nat->Prop}{H H':List Blk}(hm: ∀i,i<m-> ∃C,H[i]? =some C/\H'[ρ i]? =some (C.ren ρ)/\σ' (ρ i)=σ i){y:AV}{v:AK}(h:Rel σ' S H' w y v):
 ∀x:AV,y=x.ren ρ->x.lt m=true->Rel σ S H w x v:=by
 have lst: ∀{l0:List AV} {cs:List AK},(AV.renL ρ l0).length=cs.length->AV.ltL m l0=true->(∀(i:Nat) d x,(AV.renL ρ l0)[i]? =some d->cs[i]? =some x-> ∀z:AV,d=z.ren ρ->z.lt m=true->Rel σ S H w z x)->
  l0.length=cs.length/\ ∀(i:Nat) d x,l0[i]? =some d->cs[i]? =some x->Rel σ S H w d x:=by
  intro l0 cs hl hlt ih;refine⟨by rw[<-AV.renL_len ρ];exact hl,fun i d x hd hx=>ih i (d.ren ρ) x (by rw[AV.renL_get,hd];rfl) hx d rfl (AV.ltL_get hlt hd)⟩
 induction h with
 |d y v h=>intro x e hl;cases x<;>simp only[AV.ren,reduceCtorEq,AV.d.injEq] at e;subst e;exact .d _ _ h
 |agg l cs hl h ih=>
  intro x e hlt;cases x<;>simp only[AV.ren,reduceCtorEq,AV.agg.injEq] at e;subst e;obtain⟨h1,h2⟩:=lst hl (by simpa[AV.lt] using hlt) ih;exact .agg _ cs h1 h2
 |tup l cs hl h ih=>
  intro x e hlt;cases x<;>simp only[AV.ren,reduceCtorEq,AV.tup.injEq] at e;subst e;obtain⟨h1,h2⟩:=lst hl (by simpa[AV.lt] using hlt) ih;exact .tup _ cs h1 h2
 |fn f l cs hl h ih=>
  intro x e hlt;cases x<;>simp only[AV.ren,reduceCtorEq,AV.fn.injEq] at e;obtain⟨rfl,rfl⟩:=e;obtain⟨h1,h2⟩:=lst hl (by simpa[AV.lt] using hlt) ih;exact .fn _ _ cs h1 h2
 |gh l cs u hl h ih=>
  intro x e hlt;cases x<;>simp only[AV.ren,reduceCtorEq,AV.gh.injEq] at e;obtain⟨rfl,rfl⟩:=e;obtain⟨h1,h2⟩:=lst hl (by simpa[AV.lt] using hlt) ih;exact .gh _ _ u h1 h2
 |ptr k g o v ho g' cells hk hg h=>
  intro x e hlt;cases x<;>simp only[AV.ren,reduceCtorEq,AV.ptr.injEq] at e;obtain⟨rfl,rfl,rfl⟩:=e;obtain⟨C,h1,h2,h3⟩:=hm _ (by simpa[AV.lt] using hlt);rw[hk] at h2;cases C<;>simp only[Blk.ren,reduceCtorEq,A9,Blk.row.injEq] at h2;obtain⟨rfl,rfl⟩:=h2;exact .ptr _ _ _ v ho _ _ h1 hg fun e=>by grind
 |rsl k g n v ho g' cells hk hg h=>
  intro x e hlt;cases x<;>simp only[AV.ren,reduceCtorEq,AV.rsl.injEq] at e;obtain⟨rfl,rfl,rfl⟩:=e;obtain⟨C,h1,h2,h3⟩:=hm _ (by simpa[AV.lt] using hlt);rw[hk] at h2;cases C<;>simp only[Blk.ren,reduceCtorEq,A9,Blk.row.injEq] at h2;obtain⟨rfl,rfl⟩:=h2;exact .rsl _ _ _ v ho _ _ h1 hg fun e=>by grind
 |ept k g i j v ho g' sz T rows hk hg h=>
  intro x e hlt;cases x<;>simp only[AV.ren,reduceCtorEq,AV.ept.injEq] at e;obtain⟨rfl,rfl,rfl,rfl⟩:=e;obtain⟨C,h1,h2,h3⟩:=hm _ (by simpa[AV.lt] using hlt);rw[hk] at h2;cases C<;>simp only[Blk.ren,reduceCtorEq,A9,Blk.arr.injEq] at h2;obtain⟨rfl,rfl,rfl,rfl⟩:=h2;exact .ept _ _ _ _ v ho _ _ _ _ h1 hg fun e=>by grind
 |osl k g off len v ho g' sz T rows hk hg h=>
  intro x e hlt;cases x<;>simp only[AV.ren,reduceCtorEq,AV.osl.injEq] at e;obtain⟨rfl,rfl,rfl,rfl⟩:=e;obtain⟨C,h1,h2,h3⟩:=hm _ (by simpa[AV.lt] using hlt);rw[hk] at h2;cases C<;>simp only[Blk.ren,reduceCtorEq,A9,Blk.arr.injEq] at h2;obtain⟨rfl,rfl,rfl,rfl⟩:=h2;refine .osl _ _ _ _ v ho _ _ _ _ h1 hg fun e=>?_
  have:=h e;unfold OSl at this;rw[h3] at this;exact this
 |mp k g v ho g' l hk hg h=>
  intro x e hlt;cases x<;>simp only[AV.ren,reduceCtorEq,AV.mp.injEq] at e;obtain⟨rfl,rfl⟩:=e;obtain⟨C,h1,h2,h3⟩:=hm _ (by simpa[AV.lt] using hlt);rw[hk] at h2;cases C<;>simp only[Blk.ren,reduceCtorEq,A9,Blk.mp.injEq] at h2;obtain⟨rfl,rfl⟩:=h2;exact .mp _ _ v ho _ _ h1 hg fun e=>by grind
def pin1(gl:List AV)(i:Nat):Blk->Blk->Prop
 |.none,_=>True
 |.row g _,.row g' _=>g<g'∨(g=g'/\ ∃o,AV.ptr i g o∈gl)
 |.arr g sz T rows,.arr g' sz' T' rows'=>sz'=sz/\T'=T/\(g<g'∨(g=g'/\rows'.length=rows.length/\ ∃off len,AV.osl i g off len∈gl))
 |.mp g _,.mp g' _=>g<g'∨(g=g'/\AV.mp i g∈gl)
 |_,_=>False
def Does(P:AD)(f:AR)(args:List AV)(H0:List Blk)(gl:List AV)(x:AV)(H1:List Blk):Prop:=
 (∀i C,H0[i]? =some C-> ∃C',H1[i]? =some C'/\pin1 gl i C C')/\
 ∀(B:Bs) (σ:Sg) (S:Nat->Prop) (w:Ag) (cargs gvs:List AK),Gd B->Sm B σ S H0 w->args.length=cargs.length->(∀(i:Nat) d v,args[i]? =some d->cargs[i]? =some v->Rel σ S H0 w d v)->
  gl.length=gvs.length->(∀(i:Nat) d v,gl[i]? =some d->gvs[i]? =some v->Rel σ S H0 w d v)->
  Calls P f cargs.toArray w fun e w'=> ∃v σ' S',e= .returned v/\Sm B σ' S' H1 w'/\Rel σ' S' H1 w' x v/\ ∀(i:Nat) d v,gl[i]? =some d->gvs[i]? =some v->Rel σ' S' H1 w' d v
def DoesE(P:AD)(f:AR)(args:List AV)(H0:List Blk)(gl:List AV)(Q0:AV->List Blk->Prop):Prop:=
 ∀(B:Bs) (σ:Sg) (S:Nat->Prop) (w:Ag) (cargs gvs:List AK),Gd B->Sm B σ S H0 w->args.length=cargs.length->(∀(i:Nat) d v,args[i]? =some d->cargs[i]? =some v->Rel σ S H0 w d v)->
  gl.length=gvs.length->(∀(i:Nat) d v,gl[i]? =some d->gvs[i]? =some v->Rel σ S H0 w d v)->
  Calls P f cargs.toArray w fun e w'=> ∃x H1,Q0 x H1/\(∀i C,H0[i]? =some C-> ∃C',H1[i]? =some C'/\pin1 gl i C C')/\
   ∃v σ' S',e= .returned v/\Sm B σ' S' H1 w'/\Rel σ' S' H1 w' x v/\ ∀(i:Nat) d v,gl[i]? =some d->gvs[i]? =some v->Rel σ' S' H1 w' d v
def Does.e{f:AR}{x:AV}(h:Does P f args H0 gl x H1):DoesE P f args H0 gl fun y K=>y=x/\K=H1:=
 fun B σ S w cargs gvs h1 h2 h3 h4 h5 h6=>(h.2 B σ S w cargs gvs h1 h2 h3 h4 h5 h6).mono fun _ _ h7=>⟨x,H1,⟨rfl,rfl⟩,h.1,h7⟩
def rho(ks:List Nat)(m i:Nat):Nat:=match ks[i]? with
 |some k=>k
 |none=>m+(i -ks.length)
def place(ρ:Nat->Nat):List Blk->List Nat->List Blk->List Blk
 |H,[],_=>H
 |H,_::_,[]=>H
 |H,k::ks,C::Cs=>place ρ (H.set k (C.ren ρ)) ks Cs
def Qhh(ρ:Nat->Nat): ∀(ks:List Nat) (H Cs:List Blk),(place ρ H ks Cs).length=H.length
 |[],H,Cs=>by cases Cs<;>rfl
 |_::_,H,[]=>rfl
 |k::ks,H,C::Cs=>by simp only[place];rw[Qhh ρ ks];simp
theorem QfH(ρ:Nat->Nat): ∀(ks:List Nat) (H Cs:List Blk) (k:Nat),k∉ks->(place ρ H ks Cs)[k]? =H[k]?
 |[],H,Cs,_,_=>by cases Cs<;>rfl
 |_::_,H,[],_,_=>rfl
 |k::ks,H,C::Cs,j,hj=>by
  simp only[place];rw[QfH ρ ks _ Cs j (fun h=>hj (Av _ h)),Au (fun e=>hj (by grind))]
theorem Qor(ρ:Nat->Nat): ∀(ks:List Nat) (H Cs:List Blk) (i k:Nat) (C:Blk),ks.Nodup->ks[i]? =some k->Cs[i]? =some C->k<H.length->(place ρ H ks Cs)[k]? =some (C.ren ρ)
 |[],_,_,i,k,C,_,h,_,_=>by simp at h
 |_::_,_,[],i,k,C,_,_,h,_=>by simp at h
 |k0::ks,H,C0::Cs,0,k,C,hn,h1,h2,hk=>by
  simp at h1 h2;subst h1;subst h2;simp only[place];rw[QfH ρ ks _ Cs _ (B9.1 hn).1,AQ hk]
 |k0::ks,H,C0::Cs,i+1,k,C,hn,h1,h2,hk=>by
  simp only[place];exact Qor ρ ks _ Cs i k C (B9.1 hn).2 (by grind) (by grind) (by grind)
def AV.parts:AV->List AV
 |.agg l=> .agg l::l
 |.tup l=> .tup l::l
 |.fn f l=> .fn f l::l
 |x=>[x]
def Blk.parts:Blk->List AV
 |.row _ cells=>cells.flatMap AV.parts
 |_=>[]
theorem QlO{S:Nat->Prop}{H:List Blk}{x y:AV}{v:AK}(h:Rel σ S H w x v)(hy:y∈x.parts): ∃u,Rel σ S H w y u:=by
 have lst: ∀{l:List AV} {cs:List AK},l.length=cs.length->(∀(i:Nat) d x,l[i]? =some d->cs[i]? =some x->Rel σ S H w d x)-> ∀y∈l,∃u,Rel σ S H w y u:=by
  intro l cs hl hr y hy;obtain⟨i,hi⟩:=A5.1 hy;have:i<cs.length:=by grind
  exact⟨_,hr i y _ hi (A1 this)⟩
 have h0:=h;cases h<;>simp only[AV.parts,BG,B3,or_false] at hy<;>grind
theorem Qm0{S:Nat->Prop}{H:List Blk}{C:Blk}{y:AV}(h:BlkOk σ S H w k C)(hy:y∈C.parts): ∃u,Rel σ S H w y u:=by
 cases C<;>simp only[Blk.parts,B3,An] at hy;obtain⟨x,hx,hy⟩:=hy;rcases h with⟨b,cs,T,_,_,hr⟩|⟨_,rfl⟩
 ·obtain⟨i,hi⟩:=A5.1 hx
  obtain⟨v,_,hv⟩:=hr i x hi;exact QlO hv hy
 grind
theorem Qf3{env:List (Nat×AV)}{H:List Blk}{f:AR}(ks:List Nat)(hrun:DoesE P f args H0 gl Q0)
 (hcall: ∀(σ:Sg) (S:Nat->Prop) (H:List Blk) (w:Ag) (a:Act),(∀u∈o.op.operands,Rel σ S H w (aval env u) (a.eval u))-> ∃cargs:List AK,(execOp a.eval o).run P w= .ok (.enter f cargs.toArray) w/\
   avs.length=cargs.length/\ ∀(i:Nat) d v,avs[i]? =some d->cargs[i]? =some v->Rel σ S H w d v)
 (hargs:avs=AV.renL (rho ks H.length) args) (hks:ks.map (fun k=>H[k]?)=(H0.map (Blk.ren (rho ks H.length))).map some) (hnd:ks.Nodup)
 (hla:AV.ltL H0.length args=true) (hlg:AV.ltL H0.length gl=true) (hlH:H0.all (Blk.lt H0.length)=true)
 (hgl: ∀g∈gl,g.ren (rho ks H.length)∈avs.flatMap AV.parts++H.flatMap Blk.parts):
 EffE P o env H (fun y K=> ∃x H1,Q0 x H1/\y=x.ren (rho ks H.length)/\K=place (rho ks H.length) H ks H1++(H1.drop ks.length).map (Blk.ren (rho ks H.length))):=by
 intro B σ S a w hB hS hop K Q kk;generalize hρ:rho ks H.length=ρ at*;have hlen:ks.length=H0.length:=by have:=congrArg B5 hks;grind
 have hρk: ∀i,i<H0.length-> ∃k,ks[i]? =some k/\ρ i=k:=fun i hi=>by
  have:i<ks.length:=by omega
  exact⟨ks[i],A1 this,by rw[<-hρ];unfold rho;grind⟩
 have hρn: ∀i,H0.length<=i->ρ i=H.length+(i -H0.length):=fun i hi=>by
  rw[<-hρ];unfold rho;grind
 have hk: ∀i C,H0[i]? =some C-> ∃k,ks[i]? =some k/\ρ i=k/\H[k]? =some (C.ren ρ):=fun i C hC=>by
  obtain⟨k,h1,h2⟩:=hρk i (A6.1 hC).1;refine⟨k,h1,h2,?_⟩;have:=congrArg (fun l=>l[i]?) hks
  grind
 have hkH: ∀i k,ks[i]? =some k->k<H.length/\i<H0.length:=fun i k hi=>by
  have hi0:i<H0.length:=by grind
  obtain⟨k',h1,_,h3⟩:=hk i _ (A1 hi0)
  grind
 let own:Nat->Prop:=fun b=> ∃k∈ks,σ k=some b
 have hown: ∀b,own b->b<w.heap.size/\ ¬S b/\(B.own b∨B.w0.heap.size<=b):=fun b ⟨k,hkm,hb⟩=>by
  obtain⟨i,hi⟩:=A5.1 hkm;exact hS.σUp k b (hkH i k hi).1 hb
 have hB':Gd ⟨w,B.G,own,S⟩:=⟨hB.g,fun b hb=>by
  rcases(hown b hb).2.2 with h|h
  ·exact hB.own b h
  ·have:=Lt.size hB.lt;omega,hB.ltOf hS⟩
 have hm0: ∀i,i<H0.length-> ∃C,H0[i]? =some C/\H[ρ i]? =some (C.ren ρ)/\σ (ρ i)=(fun i=>σ (ρ i)) i:=fun i hi=>by
  obtain⟨k,h1,h2,h3⟩:=hk i _ (A1 hi)
  grind
 have hinj: ∀i j k,ks[i]? =some k->ks[j]? =some k->i=j:=fun i j k hi hj=>by
  have h1:=(A6.1 hi);have h2:=(A6.1 hj);obtain⟨hi',e1⟩:=h1;obtain⟨hj',e2⟩:=h2;have hp:=List.pairwise_iff_getElem.1 hnd
  grind
 have hS0:Sm ⟨w,B.G,own,S⟩ (fun i=>σ (ρ i)) S H0 w:=by
  refine⟨rfl,rfl,rfl,AP _,fun _ _ _=>rfl,fun _ h=>h,fun b hb=>⟨(hS.sUp b hb).1,.inl hb⟩,fun i b hi hb=>?_,fun i j b hi hj hb hb'=>?_,fun i C hC=>?_⟩
  ·grind
  ·obtain⟨k,h1,h2⟩:=hρk i hi
   obtain⟨k',h1',h2'⟩:=hρk j hj;simp only[h2,h2'] at hb hb';have:=hS.inj k k' b (hkH i k h1).1 (hkH j k' h1').1 hb hb'
   grind
  ·obtain⟨k,h1,h2,h3⟩:=hk i C hC
   have hb:=hS.blk k _ h3;have hlt:=AW.1 hlH C (Ax hC);cases C with
   |none=>show σ (ρ i)=none;rw[h2];exact hb
   |row g cells=>
    rcases hb with⟨b,cs,T,hb,hc,hr⟩|⟨hb,hc⟩
    ·refine .inl ⟨b,cs,T,by grind,hc,fun j y hy=>?_⟩
     obtain⟨u,hu,hr'⟩:=hr j (y.ren ρ) (by rw[AV.renL_get,hy];rfl);exact⟨u,hu,hr'.down hm0 y rfl (AV.ltL_get hlt hy)⟩
    ·refine .inr ⟨by grind,?_⟩
     cases cells with
     |nil=>rfl
     |cons=>simp[AV.renL] at hc
   |arr g sz T rows=>
    refine⟨hb.1,?_⟩;show(∃b cs,σ (ρ i)=some b/\_)∨(σ (ρ i)=none/\_);rw[h2];exact hb.2
   |mp g l=>show(∃b es clock,σ (ρ i)=some b/\_)∨(σ (ρ i)=none/\_);rw[h2];exact hb
 obtain⟨cargs,hc1,hc2,hc3⟩:=hcall σ S H w a hop
 have havs: ∀y∈avs.flatMap AV.parts++H.flatMap Blk.parts,∃u,Rel σ S H w y u:=by
  intro y hy;rcases List.mem_append.1 hy with hy|hy
  ·obtain⟨z,hz,hy⟩:=An.1 hy
   obtain⟨i,hi⟩:=A5.1 hz;have:i<cargs.length:=by grind
   exact QlO (hc3 i z _ hi (A1 this)) hy
  ·obtain⟨C,hC,hy⟩:=An.1 hy
   obtain⟨k,hk'⟩:=A5.1 hC;exact Qm0 (hS.blk k C hk') hy
 obtain⟨gvs,hg1,hg2⟩: ∃gvs:List AK,gl.length=gvs.length/\ ∀(i:Nat) d v,gl[i]? =some d->gvs[i]? =some v->Rel (fun i=>σ (ρ i)) S H0 w d v:=by
  have: ∀(l:List AV),(∀g∈l,g∈gl)-> ∃gvs:List AK,l.length=gvs.length/\ ∀(i:Nat) d v,l[i]? =some d->gvs[i]? =some v->Rel (fun i=>σ (ρ i)) S H0 w d v:=by
   intro l;induction l with
   |nil=>intro _;exact⟨[],rfl,fun i d v h=>by simp at h⟩
   |cons g r ih=>
    intro hm;obtain⟨gvs,h1,h2⟩:=ih fun g hg=>hm g (Av _ hg)
    have hg:=hm g List.mem_cons_self;obtain⟨u,hu⟩:=havs _ (hgl g hg);obtain⟨j,hj⟩:=A5.1 hg;refine⟨u::gvs,by simp[h1],fun i d v hd hv=>?_⟩;cases i with
    |zero=>simp at hd hv;subst hd;subst hv;exact hu.down hm0 _ rfl (AV.ltL_get hlg hj)
    |succ i=>grind
  exact this gl fun _ h=>h
 unfold BM;rw[hc1,Af];refine(hrun ⟨w,B.G,own,S⟩ (fun i=>σ (ρ i)) S w cargs gvs hB' hS0 (by rw[<-hc2,hargs,AV.renL_len]) (fun i d v hd hv=>?_) hg1 hg2).mono ?_
 ·exact(hc3 i (d.ren ρ) v (by rw[hargs,AV.renL_get,hd];rfl) hv).down hm0 d rfl (AV.ltL_get hla hd)
 rintro e w' ⟨x,H1,hq0,hpin,v,σ1,S1,rfl,hS1,hR1,hG1⟩
 have hlen1:H0.length<=H1.length:=by
  grind
 have kk:=kk _ _ ⟨x,H1,hq0,rfl,rfl⟩;generalize hH':place ρ H ks H1++(H1.drop ks.length).map (Blk.ren ρ)=H' at kk⊢;have hH'len:H'.length=H.length+(H1.length -H0.length):=by rw[<-hH'];simp[Qhh,hlen]
 let σ':Sg:=fun k=>match ks.idxOf? k with
  |some i=>σ1 i
  |none=>if k<H.length then σ k else σ1 (H0.length+(k -H.length))
 have hidx: ∀i k,ks[i]? =some k->ks.idxOf? k=some i:=fun i k hi=>by
  have hex: ∃j,ks.idxOf? k=some j:=by
   cases hx:ks.idxOf? k with
   |some j=>grind
   |none=>grind
  obtain⟨j,hj⟩:=hex
  have:ks[j]? =some k:=by
   have:=List.findIdx?_eq_some_iff_getElem.1 (show ks.findIdx? (· ==k)=some j from hj)
   grind
  grind
 have hidn: ∀k,k∉ks->ks.idxOf? k=none:=fun k hk=>List.idxOf?_eq_none_iff.2 hk
 have hσk: ∀i,i<H0.length->σ' (ρ i)=σ1 i:=fun i hi=>by
  grind
 have hσn: ∀i,H0.length<=i->σ' (ρ i)=σ1 i:=fun i hi=>by
  have hnot:ρ i∉ks:=fun hm=>by
   obtain⟨j,hj⟩:=A5.1 hm
   grind
  show(match ks.idxOf? (ρ i) with|some i=>σ1 i|none=>_)=_;rw[hidn _ hnot];simp only;rw[hρn i hi,if_neg (by omega)]
  congr 1;omega
 have hσ1: ∀i,σ' (ρ i)=σ1 i:=fun i=>by
  grind
 have hσo: ∀k,k<H.length->k∉ks->σ' k=σ k:=fun k hk hn=>by
  grind
 have hm1: ∀i C,H1[i]? =some C->H'[ρ i]? =some (C.ren ρ)/\σ' (ρ i)=σ1 i:=fun i C hC=>by
  refine⟨?_,hσ1 i⟩;rcases BN i H0.length with hi|hi
  ·obtain⟨k,h1,h2⟩:=hρk i hi
   rw[h2,<-hH',Aj (by grind)];exact Qor ρ ks H H1 i k C hnd h1 hC (hkH i k h1).1
  ·rw[hρn i hi,<-hH',Ah (by grind),Qhh,A3,Ai,hlen]
   have:H0.length+(H.length+(i -H0.length) -H.length)=i:=by omega
   grind
 have hother: ∀k C,k<H.length->k∉ks->(H'[k]? =some C↔H[k]? =some C):=fun k C hk hn=>by
  rw[<-hH',Aj (by grind),QfH ρ ks H H1 k hn]
 have hkeep: ∀b,b<w.heap.size-> ¬own b->w'.heap[b]? =w.heap[b]? :=hS1.keep
 have hnown: ∀k b,k<H.length->k∉ks->σ k=some b-> ¬own b:=fun k b hk hn hb ⟨k',hk',hb'⟩=>by
  obtain⟨i,hi⟩:=A5.1 hk';have:=hS.inj k k' b hk (hkH i k' hi).1 hb hb'
  grind
 have hgp: ∀{i:Nat} {d:AV},d∈gl-> ∃u,Rel (fun i=>σ (ρ i)) S H0 w d u/\Rel σ1 S1 H1 w' d u:=fun{i d} hd=>by
  obtain⟨j,hj⟩:=A5.1 hd;have hlt:j<gvs.length:=by grind
  exact⟨gvs[j],hg2 j d _ hj (A1 hlt),hG1 j d _ hj (A1 hlt)⟩
 have hev:Ev σ S H w σ' S1 H' w':=by
  have base: ∀k C,H[k]? =some C->(k∉ks/\H'[k]? =some C/\σ' k=σ k/\ ∀b,σ k=some b->w'.heap[b]? =w.heap[b]?)∨
   ∃i C0 C1,ρ i=k/\H0[i]? =some C0/\C=C0.ren ρ/\H1[i]? =some C1/\pin1 gl i C0 C1/\H'[k]? =some (C1.ren ρ)/\σ' k=σ1 i:=fun k C hC=>by
   have hkl:=(A6.1 hC).1
   by_cases hm:k∈ks
   ·obtain⟨i,hi⟩:=A5.1 hm
    have hi0:=(hkH i k hi).2;obtain⟨k',h1,h2,h3⟩:=hk i _ (A1 hi0);rw[hi] at h1;obtain rfl:=A0 h1;obtain⟨C1,h4,h5⟩:=hpin i _ (A1 hi0)
    grind
   ·exact .inl ⟨hm,(hother k C hkl hm).2 hC,hσo k hkl hm,fun b hb=>hkeep b (hS.σUp k b hkl hb).1 (hnown k b hkl hm hb)⟩
  refine⟨hS1.sLo,fun b hb=>hkeep b (hS.sUp b hb).1 fun ho=>(hown b ho).2.1 hb,fun k g cells hC=>?_,fun k g sz T rows hC=>?_,fun k g l hC=>?_⟩
  ·rcases base k _ hC with⟨_,h1,h2,_⟩|⟨i,C0,C1,h1,h2,h3,h4,h5,h6,h7⟩
   ·grind
   ·cases C0<;>simp only[Blk.ren,reduceCtorEq,Blk.row.injEq] at h3
    obtain⟨rfl,rfl⟩:=h3;cases C1<;>simp only[pin1] at h5;rename_i g' cells';refine⟨g',_,h6,by omega,fun e b hb=>?_⟩;subst e;rcases h5 with h5|⟨_,o,h5⟩
    ·omega
    ·obtain⟨u,hu,hu'⟩:=hgp (i:=0) h5
     cases hu with
     |ptr _ _ _ _ ho g2 c2 hk2 hg2 hh2=>
      cases hu' with
      |ptr _ _ _ _ ho3 g3 c3 hk3 hg3 hh3=>
       rw[h2] at hk2;rw[h4] at hk3;simp only[A9,Blk.row.injEq] at hk2 hk3;obtain⟨b1,e1,e2⟩:=hh2 hk2.1.symm;obtain⟨b2,e3,e4⟩:=hh3 hk3.1.symm
       grind
  ·rcases base k _ hC with⟨_,h1,h2,h3⟩|⟨i,C0,C1,h1,h2,h3,h4,h5,h6,h7⟩
   ·grind
   ·cases C0<;>simp only[Blk.ren,reduceCtorEq,Blk.arr.injEq] at h3
    obtain⟨rfl,rfl,rfl,rfl⟩:=h3;cases C1<;>simp only[pin1] at h5;rename_i g' sz' T' rows';obtain⟨rfl,rfl,h5⟩:=h5;refine⟨g',rows',h6,by omega,fun e=>?_⟩;subst e;rcases h5 with h5|⟨_,h8,off,len,h5⟩
    ·omega
    ·obtain⟨u,hu,hu'⟩:=hgp (i:=0) h5
     cases hu with
     |osl _ _ _ _ _ ho g2 s2 t2 c2 hk2 hg2 hh2=>
      cases hu' with
      |osl _ _ _ _ _ ho3 g3 s3 t3 c3 hk3 hg3 hh3=>
       rw[h2] at hk2;rw[h4] at hk3;simp only[A9,Blk.arr.injEq] at hk2 hk3;obtain⟨_,e1⟩:=hh2 hk2.1.symm;obtain⟨_,e2⟩:=hh3 hk3.1.symm;simp only[h1] at e1;obtain⟨q1,q2,q3,q4⟩:=hk2;obtain⟨p1,p2,p3,p4⟩:=hk3;subst q2;subst p2;rw[h7];rcases e1 with⟨b1,cap1,cs1,T1,a1,a2,a3,a4,a5,a6⟩|⟨a1,a2,a3⟩<;>rcases e2 with⟨b2,cap2,cs2,T2,d1,d2,d3,d4,d5,d6⟩|⟨d1,d2,d3⟩
       ·rw[a4] at d4
        simp only[BT,A9,Addr.mk.injEq] at d4;obtain⟨⟨f1,_⟩,_,f2⟩:=d4;subst f1;subst f2;refine⟨d1.trans a1.symm,h8,fun b cs T hb hc=>?_⟩;rw[a1] at hb;obtain rfl:=A0 hb;rw[a5] at hc;simp only[A9,Obj.cells.injEq] at hc;obtain⟨rfl,rfl,_⟩:=hc;have hb1:=hS1.blk i _ h4;have hb0:=hS.blk k _ hC;rcases hb1.2 with⟨b3,cs3,k1,k2,_⟩|⟨k1,_⟩;rotate_left
        ·grind
        rcases hb0.2 with⟨b4,cs4,m1,m2,_⟩|⟨m1,_⟩;rotate_left
        ·grind
        grind
       ·grind
       ·grind
       grind
  ·rcases base k _ hC with⟨_,h1,h2,_⟩|⟨i,C0,C1,h1,h2,h3,h4,h5,h6,h7⟩
   ·grind
   ·cases C0<;>simp only[Blk.ren,reduceCtorEq,Blk.mp.injEq] at h3
    obtain⟨rfl,rfl⟩:=h3;cases C1<;>simp only[pin1] at h5;rename_i g' l';refine⟨g',_,h6,by omega,fun e b hb=>?_⟩;subst e;rcases h5 with h5|⟨_,h5⟩
    ·omega
    ·obtain⟨u,hu,hu'⟩:=hgp (i:=0) h5
     cases hu with
     |mp _ _ _ ho g2 c2 hk2 hg2 hh2=>
      cases hu' with
      |mp _ _ _ ho3 g3 c3 hk3 hg3 hh3=>
       rw[h2] at hk2;rw[h4] at hk3;simp only[A9,Blk.mp.injEq] at hk2 hk3;obtain⟨b1,e1,e2⟩:=hh2 hk2.1.symm;obtain⟨b2,e3,e4⟩:=hh3 hk3.1.symm
       grind
 have hsz:=hS1.size;have hsz0:=hS.size
 have hcase: ∀k,k<H'.length->(k<H.length/\k∉ks)∨ ∃i,i<H1.length/\ρ i=k:=fun k hk'=>by
  by_cases hkl:k<H.length
  ·by_cases hm:k∈ks
   ·obtain⟨i,hi⟩:=A5.1 hm
    have hi0:=(hkH i k hi).2;obtain⟨k',h1,h2⟩:=hρk i hi0
    grind
   grind
  ·refine .inr ⟨H0.length+(k -H.length),by omega,?_⟩
   grind
 have hup1: ∀i b,i<H1.length->σ1 i=some b->b<w'.heap.size/\ ¬S1 b/\(own b∨w.heap.size<=b):=fun i b hi hb=>hS1.σUp i b hi hb
 have hoS1: ∀k b,k<H.length->k∉ks->σ k=some b-> ¬S1 b:=fun k b hk hn hb hs=>by
  obtain⟨h1,h2,_⟩:=hS.σUp k b hk hb;rcases(hS1.sUp b hs).2 with h|h|h
  ·exact h2 h
  ·exact hnown k b hk hn hb h
  grind
 refine kk v w' σ' S1 ?_ (hR1.up hm1) hev;refine⟨hS1.os.trans hS.os,hS1.tape.trans hS.tape,hS1.output.trans hS.output,Nat.le_trans hS.size hS1.size,fun b hb hn=>?_,fun b hb=>hS1.sLo b (hS.sLo b hb),fun b hb=>?_,fun k b hk' hb=>?_,fun k k' b hk1 hk2 hb hb'=>?_,fun k C hC=>?_⟩
 ·refine(hkeep b (by omega) fun ho=>?_).trans (hS.keep b hb hn)
  grind
 ·obtain⟨h1,h2⟩:=hS1.sUp b hb
  refine⟨h1,?_⟩;rcases h2 with h2|h2|h2
  ·exact(hS.sUp b h2).2
  ·grind
  grind
 ·rcases hcase k hk' with⟨h1,h2⟩|⟨i,h1,rfl⟩
  ·rw[hσo k h1 h2] at hb
   obtain⟨h3,_,h5⟩:=hS.σUp k b h1 hb
   grind
  grind
 ·have cross: ∀k i b,k<H.length->k∉ks->i<H1.length->σ k=some b->σ1 i=some b->False:=fun k i b h1 h2 h3 h4 h5=>by
   rcases(hup1 i b h3 h5).2.2 with h|h
   ·exact hnown k b h1 h2 h4 h
   ·have:=(hS.σUp k b h1 h4).1;omega
  rcases hcase k hk1 with⟨h1,h2⟩|⟨i,h1,rfl⟩<;>rcases hcase k' hk2 with⟨h3,h4⟩|⟨j,h3,rfl⟩
  ·rw[hσo k h1 h2] at hb;rw[hσo k' h3 h4] at hb'
   exact hS.inj k k' b h1 h3 hb hb'
  ·grind
  ·grind
  ·rw[hσ1] at hb hb'
   rw[hS1.inj i j b h1 h3 hb hb']
 ·rcases hcase k (A6.1 hC).1 with⟨h1,h2⟩|⟨i,h1,rfl⟩
  ·exact(hS.blk k C ((hother k C h1 h2).1 hC)).mono hev (hσo k h1 h2) fun b hb=>hkeep b (hS.σUp k b h1 hb).1 (hnown k b h1 h2 hb)
  ·obtain⟨h3,h4⟩:=hm1 i _ (A1 h1)
   rw[h3] at hC;obtain rfl:=A0 hC;have hb:=hS1.blk i _ (A1 h1);generalize H1[i]=C1 at*;cases C1 with
   |none=>exact h4.trans hb
   |row g cells=>
    rcases hb with⟨b,cs,T,hb,hc,hr⟩|⟨hb,rfl⟩
    ·refine .inl ⟨b,cs,T,h4.trans hb,hc,fun j y hy=>?_⟩
     obtain⟨y0,hy0,rfl⟩:=QeP hy;obtain⟨u,hu,hr'⟩:=hr j y0 hy0;exact⟨u,hu,hr'.up hm1⟩
    ·exact .inr ⟨h4.trans hb,rfl⟩
   |arr g sz T rows=>
    refine⟨hb.1,?_⟩;rw[h4];exact hb.2
   |mp g l=>show(∃b es clock,σ' (ρ i)=some b/\_)∨(σ' (ρ i)=none/\_);rw[h4];exact hb
theorem Qi5{env:List (Nat×AV)}{H:List Blk}{f:AR}{x:AV}(ks:List Nat)(h:Does P f args H0 gl x H1)
 (hcall: ∀(σ:Sg) (S:Nat->Prop) (H:List Blk) (w:Ag) (a:Act),(∀u∈o.op.operands,Rel σ S H w (aval env u) (a.eval u))-> ∃cargs:List AK,(execOp a.eval o).run P w= .ok (.enter f cargs.toArray) w/\
   avs.length=cargs.length/\ ∀(i:Nat) d v,avs[i]? =some d->cargs[i]? =some v->Rel σ S H w d v)
 (hargs:avs=AV.renL (rho ks H.length) args) (hks:ks.map (fun k=>H[k]?)=(H0.map (Blk.ren (rho ks H.length))).map some) (hnd:ks.Nodup)
 (hla:AV.ltL H0.length args=true) (hlg:AV.ltL H0.length gl=true) (hlH:H0.all (Blk.lt H0.length)=true)
 (hgl: ∀g∈gl,g.ren (rho ks H.length)∈avs.flatMap AV.parts++H.flatMap Blk.parts):
 Eff P o env H (x.ren (rho ks H.length)) (place (rho ks H.length) H ks H1++(H1.drop ks.length).map (Blk.ren (rho ks H.length))):=by
 intro B σ S a w hB hS hop K Q kk;refine Qf3 ks h.e hcall hargs hks hnd hla hlg hlH hgl B σ S a w hB hS hop K Q ?_
 grind
def parA:Nat->List AV->List (Nat×AV)
 |_,[]=>[]
 |i,d::r=>(i,d)::parA (i+1) r
theorem Qhk: ∀(l:List AV) (i t:Nat),(∃d,i<=t/\l[t -i]? =some d/\look (parA i l) t=d)∨look (parA i l) t= .d .any
 |[],_,_=> .inr rfl
 |d::r,i,t=>by
  by_cases h:i=t
  ·subst h;exact .inl ⟨d,AP _,by simp,Qdv _ _ _⟩
  ·have hl:look (parA i (d::r)) t=look (parA (i+1) r) t:=Qd1 h _ _
   rw[hl];rcases Qhk r (i+1) t with⟨d',h1,h2,h3⟩|h
   ·grind
   grind
def allR(env:List (Nat×AV)):List AS->Option (List AV)
 |[]=>some []
 |.tmp t::r=>(allR env r).map (look env t:: ·)
 |.cell _ _::_=>none
def resA(env:List (Nat×AV)):List AS->Option AV
 |[.tmp t]=>some (look env t)
 |rs=>(allR env rs).map .tup
abbrev gslot:Nat:=1000000
def EndA(rs:List AS)(x:AV)(H1:List Blk)(gl:List AV)(gvs:List AK):BD->St->Prop
 |.normal,s| .ret,s=>resA s.env rs=some x/\s.H=H1/\look s.env gslot= .gh gl gvs
 |_,_=>False
theorem QfZ(tmps:Array AK)(w:Ag): ∀(rs:List AS) (env:List (Nat×AV)) (ds:List AV),allR env rs=some ds->
 (rs.mapM (rvS tmps)).run P w= .ok (rs.map (rvV tmps)) w/\ds.length=rs.length/\ ∀(i:Nat) d v,ds[i]? =some d->(rs.map (rvV tmps))[i]? =some v-> ∃t,d=look env t/\v=tmps.getD t undef
 |[],_,ds,h=>by obtain rfl:=A0 h;simp
 |.tmp t::rs,env,ds,h=>by
  obtain⟨ds',h1,rfl⟩:=A7.1 h;obtain⟨h2,h3,h4⟩:=QfZ tmps w rs env ds' h1;refine⟨?_,by simp[h3],fun i d v hd hv=>?_⟩
  ·rw[List.mapM_cons,A8]
   show((Sem.pure (tmps.getD t undef)).run P w).andThen _=_;rw[BH,AG,A8,h2,AG,AZ];rfl
  ·cases i with
   |zero=>simp[rvV] at hd hv;subst hd;subst hv;exact⟨t,rfl,by simp⟩
   |succ i=>grind
 |.cell _ _::rs,env,ds,h=>by simp[allR] at h
def EndE(H0:List Blk)(rs:List AS)(Q0:AV->List Blk->Prop)(gl:List AV)(gvs:List AK):BD->St->Prop
 |.normal,s| .ret,s=> ∃x,resA s.env rs=some x/\Q0 x s.H/\(∀i C,H0[i]? =some C-> ∃C',s.H[i]? =some C'/\pin1 gl i C C')/\look s.env gslot= .gh gl gvs
 |_,_=>False
theorem Qmt{f:AR}{fn:Func}{n:Nat}(hf:P.funcs[f]? =some fn)(hb:fn.body=some c)(hn:fn.ntmps=n)(hrs:fn.results=rs.toArray)(hle:AJ args.length n=true)
 (hn2:AJ n gslot=true)
 (h: ∀gvs,AWP P c (EndE H0 rs Q0 gl gvs) ⟨n,(gslot,.gh gl gvs)::parA 0 args,H0⟩):DoesE P f args H0 gl Q0:=by
 have hlen:args.length<=n:=A4 hle;have hn2:n<=gslot:=A4 hn2;intro B σ S w cargs gvs hB hS hl hr hgl hgr;refine calls_of_wp hf hb ?_
 have hA:SmA B σ S ⟨n,(gslot,.gh gl gvs)::parA 0 args,H0⟩ {tmps:=cargs.toArray++AL (fn.ntmps -cargs.toArray.size) undef,defers:=[]} w:=by
  refine⟨hS,rfl,?_,fun t=>?_⟩
  ·grind
  ·by_cases ht:gslot=t
   ·subst ht
    show Rel σ S H0 w (look ((gslot,.gh gl gvs)::parA 0 args) gslot) _;rw[Qdv];exact .gh _ _ _ hgl hgr
   show Rel σ S H0 w (look ((gslot,.gh gl gvs)::parA 0 args) t) _;rw[Qd1 ht];rcases Qhk args 0 t with⟨d,_,h2,h3⟩|h
   ·rw[h3]
    have ht:t<cargs.length:=by grind
    have:(cargs.toArray++AL (fn.ntmps -cargs.toArray.size) undef).getD t undef=cargs[t]:=by
     rw[AE,AU (by omega)];simp[ht]
    show Rel σ S H0 w d ((cargs.toArray++AL (fn.ntmps -cargs.toArray.size) undef).getD t undef);rw[this];exact hr t d _ (by omega) (A1 ht)
   ·rw[h];exact .d _ _ (.any _)
 refine wp_mono (h gvs _ hB _ _ _ _ hA) ?_;rintro e a w' ⟨s',σ',S',hq,hA'⟩
 have fin:(∃x,resA s'.env rs=some x/\Q0 x s'.H/\(∀i C,H0[i]? =some C-> ∃C',s'.H[i]? =some C'/\pin1 gl i C C')/\look s'.env gslot= .gh gl gvs)->a.defers=[]/\ ∃v,(results fn a.tmps).run P w'= .ok v w'/\
  ∃x H1,Q0 x H1/\(∀i C,H0[i]? =some C-> ∃C',H1[i]? =some C'/\pin1 gl i C C')/\ ∃v' σ' S',Ar v= .returned v'/\Sm B σ' S' H1 w'/\Rel σ' S' H1 w' x v'/\ ∀(i:Nat) d v,gl[i]? =some d->gvs[i]? =some v->Rel σ' S' H1 w' d v:=by
  rintro⟨x,hx,hQ,hpin,hg⟩;refine⟨hA'.defers,?_⟩
  have hgh: ∀(i:Nat) d v,gl[i]? =some d->gvs[i]? =some v->Rel σ' S' s'.H w' d v:=by
   have:=hA'.env gslot;rw[hg] at this;cases this with
   |gh _ _ _ h1 h2=>exact h2
  have hsm:=hA'.sm;have henv:=hA'.env
  have gen: ∀ds,allR s'.env rs=some ds->(fn.results.mapM (rvS a.tmps)).run P w'= .ok (rs.map (rvV a.tmps)).toArray w':=fun ds hds=>by
   rw[hrs,Array.mapM_eq_mapM_toList,Sem.run_map,(QfZ a.tmps w' rs s'.env ds hds).1];rfl
  rw[Qfq]
  by_cases h1:rs.length=1
  ·match rs,h1 with
   |[.tmp t],_=>
    obtain rfl:=A0 hx;refine⟨a.tmps.getD t undef,?_,_,_,hQ,hpin,_,σ',S',rfl,hsm,henv t,hgh⟩;rw[A8,gen [look s'.env t] rfl];rfl
   |[.cell _ _],_=>simp[resA,allR] at hx
  ·have hx':(allR s'.env rs).map AV.tup=some x:=by
    unfold resA at hx
    grind
   obtain⟨ds,hds,rfl⟩:=A7.1 hx';obtain⟨_,h3,h4⟩:=QfZ (P:=P) a.tmps w' rs s'.env ds hds;refine⟨.tuple (rs.map (rvV a.tmps)).toArray,?_,_,_,hQ,hpin,_,σ',S',rfl,hsm,.tup ds _ (by simp[h3]) fun i d v hd hv=>?_,hgh⟩
   ·simp_all
   grind
 cases e with
 |normal=>exact fin hq
 |ret=>exact fin hq
 |_=>exact hq.elim
theorem QnH{f:AR}{fn:Func}{x:AV}{n:Nat}(hf:P.funcs[f]? =some fn)(hb:fn.body=some c)(hn:fn.ntmps=n)(hrs:fn.results=rs.toArray)(hle:AJ args.length n=true)
 (hn2:AJ n gslot=true) (hpin: ∀i C,H0[i]? =some C-> ∃C',H1[i]? =some C'/\pin1 gl i C C')
 (h: ∀gvs,AWP P c (EndA rs x H1 gl gvs) ⟨n,(gslot,.gh gl gvs)::parA 0 args,H0⟩):Does P f args H0 gl x H1:=by
 refine⟨hpin,fun B σ S w cargs gvs h1 h2 h3 h4 h5 h6=>(Qmt (Q0:=fun y K=>y=x/\K=H1) hf hb hn hrs hle hn2 (fun gvs=>?_) B σ S w cargs gvs h1 h2 h3 h4 h5 h6).mono ?_⟩
 ·intro B hB σ S a w hA
  refine wp_mono (h gvs B hB σ S a w hA) ?_;rintro e a w ⟨s',σ',S',hq,hA'⟩;refine⟨s',σ',S',?_,hA'⟩;cases e with
  |normal=>exact⟨x,hq.1,⟨rfl,hq.2.1⟩,fun i C hC=>by rw[hq.2.1];grind,hq.2.2⟩
  |ret=>exact⟨x,hq.1,⟨rfl,hq.2.1⟩,fun i C hC=>by rw[hq.2.1];grind,hq.2.2⟩
  |_=>exact hq.elim
 grind
theorem Qet{dst:Option BQ}{ty:AA}{pos:String}{after:Array B1}{gd:Option (Nat×Bool)}{env:List (Nat×AV)}{f:AR}
 (hf: ∀args w,(callFunc f args).run P w= .ok (.enter f args) w) (σ:Sg) (S:Nat->Prop) (H:List Blk) (w:Ag) (a:Act) (hop: ∀u∈(⟨dst,.call ⟨.value (.func f),xs,tys⟩,ty,pos,after,gd⟩:AN).op.operands,Rel σ S H w (aval env u) (a.eval u)):
 ∃cargs:List AK,(execOp a.eval ⟨dst,.call ⟨.value (.func f),xs,tys⟩,ty,pos,after,gd⟩).run P w= .ok (.enter f cargs.toArray) w/\
  (xs.toList.map (aval env)).length=cargs.length/\ ∀(i:Nat) d v,(xs.toList.map (aval env))[i]? =some d->cargs[i]? =some v->Rel σ S H w d v:=by
 refine⟨xs.toList.map a.eval,?_,by simp,fun i d v hd hv=>?_⟩
 ·have:execOp a.eval ⟨dst,.call ⟨.value (.func f),xs,tys⟩,ty,pos,after,gd⟩=callFunc f (#[]++xs.map a.eval++ #[]):=rfl
  rw[this,hf]
  congr 2
  apply BS;simp
 ·rw[A3] at hd hv
  cases hx:xs.toList[i]? with
  |none=>grind
  |some u=>
   rw[hx] at hd hv;obtain rfl:=A0 hd;obtain rfl:=A0 hv;exact hop u (by simp only[A2,AH];grind)
theorem QoT{dst:Option BQ}{ty:AA}{pos:String}{after:Array B1}{gd:Option (Nat×Bool)}{env:List (Nat×AV)}{f:AR}
 (hf: ∀args w,(callFunc f args).run P w= .ok (.enter f args) w) (ht:look env t= .fn (.func f) caps) (σ:Sg) (S:Nat->Prop) (H:List Blk) (w:Ag) (a:Act)
 (hop: ∀u∈(⟨dst,.call ⟨.value (.tmp t),xs,tys⟩,ty,pos,after,gd⟩:AN).op.operands,Rel σ S H w (aval env u) (a.eval u)):
 ∃cargs:List AK,(execOp a.eval ⟨dst,.call ⟨.value (.tmp t),xs,tys⟩,ty,pos,after,gd⟩).run P w= .ok (.enter f cargs.toArray) w/\
  (xs.toList.map (aval env)++caps).length=cargs.length/\ ∀(i:Nat) d v,(xs.toList.map (aval env)++caps)[i]? =some d->cargs[i]? =some v->Rel σ S H w d v:=by
 have h1:=hop (.tmp t) (by simp[A2,AH]);have h2: ∀u∈xs.toList,Rel σ S H w (aval env u) (a.eval u):=fun u hu=>hop u (by simp only[A2,AH];grind)
 change Rel σ S H w (look env t) (a.eval (.tmp t)) at h1
 rw[ht] at h1;generalize hv:a.eval (.tmp t)=v0 at h1;cases h1 with
 |fn _ _ cs hl hr=>
  refine⟨xs.toList.map a.eval++cs,?_,by simp[hl],fun i d v hd hv=>?_⟩
  ·have:execOp a.eval ⟨dst,.call ⟨.value (.tmp t),xs,tys⟩,ty,pos,after,gd⟩=callFunc f (#[]++xs.map a.eval++cs.toArray):=by
    show(do let d<-Deferred.ofValue (a.eval (.tmp t)) (xs.map a.eval);invoke d.target d.args:Sem Next)=_;rw[hv];rfl
   simp_all
  grind
def AV.ice(H:List Blk):Nat->AV->D
 |0,_=> .any
 |_+1,.d x=>x
 |n+1,.agg l=> .agg (l.map (AV.ice H n))
 |n+1,.tup l=> .tup (l.map (AV.ice H n))
 |n+1,.ptr k g o=>match H[k]? with
  |some (.row g' cells)=>if g=g' then .pd ((cells.drop o).map (AV.ice H n)) else .any
  |_=> .any
 |_+1,.osl k g off len=>match H[k]? with
  |some (.arr g' sz _ rows)=>if g=g' then .sl true sz ((rows.drop off).take len) else .any
  |_=> .any
 |_+1,.mp k g=>match H[k]? with
  |some (.mp g' l)=>if g=g' then .mp l else .any
  |_=> .any
 |_+1,_=> .any
mutual
def D.flat:D->Bool
 |.v _=>true
 |.any=>true
 |.agg l=>D.flatL l
 |.tup l=>D.flatL l
 |_=>false
def D.flatL:List D->Bool
 |[]=>true
 |x::r=>D.flat x&&D.flatL r
end
theorem D.flatL_get: ∀{l:List D} {i:Nat} {x:D},D.flatL l=true->l[i]? =some x->x.flat=true
 |[],i,x,_,h=>by simp at h
 |y::r,0,x,hl,h=>by simp only[D.flatL,Ac] at hl;grind
 |y::r,i+1,x,hl,h=>by simp only[D.flatL,Ac] at hl;exact D.flatL_get hl.2 (by simpa using h)
def RelD.flat{S S':Nat->Prop}{w':Ag}{d:D}{x:AK}(h:RelD S w d x):d.flat=true->RelD S' w' d x:=by
 induction h with
 |any x=>exact fun _=> .any x
 |v x=>exact fun _=> .v x
 |agg l cs hl h ih=>exact fun hf=> .agg l cs hl fun i d x hd hx=>ih i d x hd hx (D.flatL_get (by simpa[D.flat] using hf) hd)
 |tup l cs hl h ih=>exact fun hf=> .tup l cs hl fun i d x hd hx=>ih i d x hd hx (D.flatL_get (by simpa[D.flat] using hf) hd)
 |_=>intro hf;simp[D.flat] at hf
theorem Qjo{B:Bs}{σ:Sg}{S:Nat->Prop}{H H':List Blk}{w:Ag}(hS:Sm B σ S H' w)(hag:Agree H H'): ∀(n:Nat) (x:AV) (v:AK),Rel σ S H' w x v->RelD (fun b=>S b∨ ∃k,k<H'.length/\σ k=some b) w (x.ice H n) v
 |0,x,v,_=> .any v
 |n+1,x,v,hR=>by
  have hin: ∀k C b,H'[k]? =some C->σ k=some b->(S b∨ ∃k,k<H'.length/\σ k=some b):=fun k C b hk hb=> .inr ⟨k,(A6.1 hk).1,hb⟩
  cases hR with
  |d x v h=>exact h.mono (fun b hb=> .inl hb) fun _ _=>rfl
  |agg l cs hl h=>
   refine .agg _ cs (by simpa using hl) fun i d x hd hx=>?_
   rw[A3] at hd;obtain⟨y,hy,rfl⟩:=A7.1 hd;exact Qjo hS hag n y x (h i y x hy hx)
  |tup l cs hl h=>
   refine .tup _ cs (by simpa using hl) fun i d x hd hx=>?_
   rw[A3] at hd;obtain⟨y,hy,rfl⟩:=A7.1 hd;exact Qjo hS hag n y x (h i y x hy hx)
  |fn f l cs hl h=>exact .any _
  |gh l cs u hl h=>exact .any _
  |ept k g i j v ho g' sz T rows hk hg hh=>exact .any _
  |rsl k g n v ho g' cells hk hg hh=>exact .any _
  |ptr k g o v ho g' cells hk hg hh=>
   simp only[AV.ice];split;rotate_left
   ·exact .any _
   rename_i g2 cells2 hk2;split;rotate_left
   ·exact .any _
   rename_i e;subst e
   have e2:cells2=cells/\g'=g:=by
    rcases hag k _ hk2 with h|h<;>rw[hk] at h<;>simp at h;exact⟨h.2.symm,h.1⟩
   obtain⟨rfl,rfl⟩:=e2;obtain⟨b,hb,rfl⟩:=hh rfl;rcases hS.blk k _ hk with⟨b',cs,T,hb',hc,hr⟩|⟨hb',_⟩;rotate_left
   ·rw[hb] at hb';cases hb'
   rw[hb] at hb';obtain rfl:=A0 hb'
   have key: ∀(j:Nat) d,((cells2.drop o).map (AV.ice H n))[j]? =some d-> ∃u,cs[o+j]? =some u/\RelD (fun b=>S b∨ ∃k,k<H'.length/\σ k=some b) w d u:=by
    intro j d hd;rw[A3,Ai] at hd;obtain⟨y,hy,rfl⟩:=A7.1 hd;obtain⟨u,hu,hr'⟩:=hr _ y hy;exact⟨u,hu,Qjo hS hag n y u hr'⟩
   refine .pd _ b o (fun j=>(cs[o+j]?).getD undef) (hin k _ b hk hb) (fun j d hd=>?_) fun j d hd=>?_
   ·obtain⟨u,hu,_⟩:=key j d hd
    rw[cell_of_row w b (o+j) cs T (0,0) hc,hu];rfl
   ·obtain⟨u,hu,hr'⟩:=key j d hd
    rw[hu];exact hr'
  |osl k g off len v ho g' sz T rows hk hg hh=>
   simp only[AV.ice];split;rotate_left
   ·exact .any _
   rename_i g2 sz2 T2 rows2 hk2;split;rotate_left
   ·exact .any _
   rename_i e;subst e
   have e2:g'=g/\sz=sz2/\T=T2/\rows=rows2:=by
    rcases hag k _ hk2 with h|h<;>rw[hk] at h<;>simp at h;exact h
   obtain⟨rfl,rfl,rfl,rfl⟩:=e2;obtain⟨hle,hh⟩:=hh rfl;have hblk:=hS.blk k _ hk;rcases hh with⟨b,cap,cs,T',hb,hcl,hcm,rfl,hc,hsz⟩|⟨hb,rfl,rfl⟩
   ·obtain⟨hall,hblk⟩:=hblk
    rcases hblk with⟨b',cs',hb',hc',hr⟩|⟨hb',_⟩;rotate_left
    ·rw[hb] at hb';cases hb'
    rw[hb] at hb';obtain rfl:=A0 hb';have hlen:((rows.drop off).take len).length=len:=by rw[List.length_take,List.length_drop];omega
    have key: ∀(i j:Nat) r d,((rows.drop off).take len)[i]? =some r->r[j]? =some d-> ∃u,cs'[off*sz+i*sz+j]? =some u/\RelD S w d u:=by
     intro i j r d hi hj;rw[List.getElem?_take] at hi;split at hi
     ·rw[Ai] at hi
      obtain⟨u,hu,hd⟩:=hr _ j r d hi hj;exact⟨u,by rw[<-hu];congr 1;rw[Nat.add_mul],hd⟩
     ·cases hi
    have hfin:RelD (fun b=>S b∨ ∃k,k<H'.length/\σ k=some b) w (.sl true sz ((rows.drop off).take len)) (.slice (some ⟨b,off*sz,none⟩) ((rows.drop off).take len).length cap):=by
     refine .sl true sz _ b (off*sz) cap (fun i j=>(cs'[off*sz+i*sz+j]?).getD undef) (hin k _ b hk hb) (fun r hr'=>?_) (fun _=>by omega) (fun i j r d hi hj=>?_) fun i j r d hi hj=>?_
     ·exact hall r (Ae (AT hr'))
     ·obtain⟨u,hu,_⟩:=key i j r d hi hj
      rw[cell_of_row w b (off*sz+i*sz+j) cs' T (0,0) hc',hu];rfl
     ·obtain⟨u,hu,hd⟩:=key i j r d hi hj
      rw[hu];exact hd.mono (fun _ h=> .inl h) fun _ _=>rfl
    rw[hlen] at hfin;exact hfin
   ·simp only[BE];exact .slnil _ _ _ _
  |mp k g v ho g' l hk hg hh=>
   simp only[AV.ice];split;rotate_left
   ·exact .any _
   rename_i g2 l2 hk2;split;rotate_left
   ·exact .any _
   rename_i e;subst e
   have e2:g'=g/\l=l2:=by
    rcases hag k _ hk2 with h|h<;>rw[hk] at h<;>simp at h;exact h
   obtain⟨rfl,rfl⟩:=e2;obtain⟨b,hb,rfl⟩:=hh rfl;rcases hS.blk k _ hk with⟨b',es,clock,hb',hc,hl,hr⟩|⟨hb',_⟩;rotate_left
   ·rw[hb] at hb';cases hb'
   rw[hb] at hb';obtain rfl:=A0 hb';refine .mp l b es clock (hin k _ b hk hb) hc hl.1 (fun i key d e hi he=>?_) fun i key d e hi he=>?_
   ·obtain⟨e',he',hk',_⟩:=hr i key d hi
    rw[he] at he';obtain rfl:=A0 he';exact hk'
   ·obtain⟨e',he',_,hd⟩:=hr i key d hi
    rw[he] at he';obtain rfl:=A0 he';exact hd.mono (fun _ h=> .inl h) fun _ _=>rfl
theorem QeB{dst:Option BQ}{ty:AA}{pos:String}{after:Array B1}{gd:Option (Nat×Bool)}{env:List (Nat×AV)}{H:List Blk}{f:AR}{x:D}
 (hf: ∀args w,(callFunc f args).run P w= .ok (.enter f args) w) (h:Pure P f ds x) (hx:x.flat=true) (hd:ds=xs.toList.map fun u=>(aval env u).ice H 4:=by rfl):
 Loc P ⟨dst,.call ⟨.value (.func f),xs,tys⟩,ty,pos,after,gd⟩ env H (.d x) none:=by
 intro B σ S H' a w hB hS hop hag _ K Q k
 have hrun:(execOp a.eval ⟨dst,.call ⟨.value (.func f),xs,tys⟩,ty,pos,after,gd⟩).run P w= .ok (.enter f (xs.toList.map a.eval).toArray) w:=by
  have:execOp a.eval ⟨dst,.call ⟨.value (.func f),xs,tys⟩,ty,pos,after,gd⟩=callFunc f (#[]++xs.map a.eval++ #[]):=rfl;rw[this,hf]
  congr 2
  apply BS;simp
 unfold BM;rw[hrun,Af]
 let S2:Nat->Prop:=fun b=>S b∨ ∃k,k<H'.length/\σ k=some b
 have hB':Gd ⟨w,B.G,fun _=>False,S2⟩:=hB.again hS S2
 have hS':Sm ⟨w,B.G,fun _=>False,S2⟩ (fun _=>none) S2 [] w:=by
  refine⟨rfl,rfl,rfl,AP _,fun _ _ _=>rfl,fun _ h=>h,fun b hb=>⟨?_,.inl hb⟩,fun k b hk=>by simp at hk,fun k k' b hk=>by simp at hk,fun k C hC=>by simp at hC⟩;rcases hb with hb|⟨k,hk,hb⟩
  ·exact(hS.sUp b hb).1
  ·exact(hS.σUp k b hk hb).1
 refine(h _ _ S2 [] w (xs.toList.map a.eval) hB' hS' (by grind) fun i d v hi hv=>?_).mono ?_
 ·rw[hd] at hi
  rw[A3] at hi hv;cases hx:xs.toList[i]? with
  |none=>grind
  |some u=>
   rw[hx] at hi hv;obtain rfl:=A0 hi;obtain rfl:=A0 hv;exact Qjo hS hag 4 _ _ (hop u (by simp only[A2,AH];grind))
 rintro e w' ⟨v,rfl,hb,hr⟩;obtain⟨h3,h4⟩:=hS.below hb;exact k v w' σ _ h3 (.d _ _ (hr.flat hx)) h4
variable{P:AD}
section
variable{dst:Option BQ}{ty:AA}{pos:String}{after:Array B1}{gd:Option (Nat×Bool)}{env:List (Nat×AV)}{H:List Blk}
def Qg2{F:TyF}{x:AC}{l:List UInt8} [hT:Ty P T F](hs:F.str=true)(hu:aval env u= .d (.v (.string ⟨l.toArray⟩)))(hx:aval env x= .d (.v (.int κ i)))(hy:aval env y= .d (.v (.int κ' j)))
 (h0:0<=i) (h1:i<=j) (h2:j<=l.length):Loc P ⟨dst,.slice T u (some x) (some y) none,ty,pos,after,gd⟩ env H (.d (.v (.string ⟨((l.take j.toNat).drop i.toNat).toArray⟩))) none:=
 QR fun σ S H' a w _ hop _=>by
  have a1:=AV.conc_rel (hop u (by simp[A2])) (y:= .string ⟨l.toArray⟩) (by rw[hu];rfl);have a2:=AV.conc_rel (hop x (by simp[A2])) (y:= .int κ i) (by rw[hx];rfl);have a3:=AV.conc_rel (hop y (by simp[A2])) (y:= .int κ' j) (by rw[hy];rfl);refine⟨.string ⟨((l.take j.toNat).drop i.toNat).toArray⟩,?_,.d _ _ (.v _)⟩;simp only[execOp,AB,AM,a1,a2,a3,A8,run_sliceAt_string _ _ _ _ _ _ (QfW hT.h hs),run_slice_string_if w T _ _ _ _ _ (QfW hT.h hs),Qgx];rw[if_pos ⟨by omega,h2⟩,if_pos ⟨h0,h1⟩,Pm.QhY];rfl
def Qfw{F:TyF}{x:AC}{l:List UInt8} [hT:Ty P T F](hs:F.str=true)(hu:aval env u= .d (.v (.string ⟨l.toArray⟩)))(hx:aval env x= .d (.v (.int κ i)))
 (h0:0<=i) (h1:i<=l.length):Loc P ⟨dst,.slice T u (some x) none none,ty,pos,after,gd⟩ env H (.d (.v (.string ⟨(l.drop i.toNat).toArray⟩))) none:=
 QR fun σ S H' a w _ hop _=>by
  have a1:=AV.conc_rel (hop u (by simp[A2])) (y:= .string ⟨l.toArray⟩) (by rw[hu];rfl);have a2:=AV.conc_rel (hop x (by simp[A2])) (y:= .int κ i) (by rw[hx];rfl);refine⟨.string ⟨(l.drop i.toNat).toArray⟩,?_,.d _ _ (.v _)⟩;simp only[execOp,AB,AM,a1,a2,A8,run_sliceAt_string _ _ _ _ _ _ (QfW hT.h hs)];rw[run_slice_string_l w T _ (QfW hT.h hs) _ _ h0 (by rw[Qgx];exact h1),Qgx,Pm.QhY,B4];rfl
def Qfx{F:TyF}{l:List UInt8} [hT:Ty P T F](hs:F.str=true)(hu:aval env u= .d (.v (.string ⟨l.toArray⟩)))(hy:aval env y= .d (.v (.int κ' j)))
 (h0:0<=j) (h2:j<=l.length):Loc P ⟨dst,.slice T u none (some y) none,ty,pos,after,gd⟩ env H (.d (.v (.string ⟨(l.take j.toNat).toArray⟩))) none:=
 QR fun σ S H' a w _ hop _=>by
  have a1:=AV.conc_rel (hop u (by simp[A2])) (y:= .string ⟨l.toArray⟩) (by rw[hu];rfl);have a3:=AV.conc_rel (hop y (by simp[A2])) (y:= .int κ' j) (by rw[hy];rfl);refine⟨.string ⟨(l.take j.toNat).toArray⟩,?_,.d _ _ (.v _)⟩;simp only[execOp,AB,AM,a1,a3,A8,run_sliceAt_string _ _ _ _ _ _ (QfW hT.h hs)];rw[run_slice_string_h w T _ (QfW hT.h hs) _ _ h0 (by rw[Qgx];exact h2),Pm.QhY,BF];rfl
def QhV{e:AA}(h:P.underlying T=some (.slice e)):P.elem T=e:=by unfold Program.elem;rw[h]
theorem Qiy{S:Nat->Prop}{n l h:Nat}{rows:List (List D)}{a:Option Addr}{len cap:Nat}(hr:RelD S w (.sl true n rows) (.slice a len cap))(h1:l<=h)(h2:h<=rows.length):
 h<=cap/\len=rows.length/\RelD S w (.sl true n ((rows.take h).drop l)) (sliced a l h cap n):=by
 cases hr with
 |slnil=>
  have:l=0/\h=0:=by grind
  obtain⟨rfl,rfl⟩:=this;simp only[sliced,BI,List.drop_nil,Nat.sub_self,Ap];exact⟨by omega,rfl,.slnil _ _ _ _⟩
 |sl _ _ _ b o cap g hS hn hcap hc hrr=>
  have hc':=hcap rfl;refine⟨by omega,rfl,?_⟩;unfold sliced
  by_cases hm:cap=l
  ·rw[if_pos hm]
   have:((rows.take h).drop l)=[]:=by grind
   rw[this,show h -l=0 by omega];exact .slnil _ _ _ _
  ·rw[if_neg hm]
   have hlen:((rows.take h).drop l).length=h -l:=by grind
   have hget: ∀(i:Nat) r,((rows.take h).drop l)[i]? =some r->rows[l+i]? =some r:=fun i r hr=>by
    grind
   have:=RelD.sl (S:=S) (w:=w) true n ((rows.take h).drop l) b (o+l*n) (cap -l) (fun i j=>g (l+i) j) hS (fun r hr=>hn r (AT (Ae hr))) (fun _=>by omega)
    (fun i j r d hi hj=>by grind) (fun i j r d hi hj=>hrr (l+i) j r d (hget i r hi) hj)
   rw[hlen] at this;simp only[AB,Qef];omega
def Qmc{e:AA}{F:TyF}{x:AC}{rows:List (List D)} [hT:Ty P T F](he:F.elem=some e) [hE:Ty P e E](hu:aval env u= .d (.sl true E.size rows))(hx:aval env x= .d (.v (.int κ i)))(hy:aval env y= .d (.v (.int κ' j)))
 (h0:0<=i) (h1:i<=j) (h2:j<=rows.length):Loc P ⟨dst,.slice T u (some x) (some y) none,ty,pos,after,gd⟩ env H (.d (.sl true E.size ((rows.take j.toNat).drop i.toNat))) none:=
 QR fun σ S H' a w _ hop _=>by
  have a1:=hop u (by simp[A2]);have a2:=AV.conc_rel (hop x (by simp[A2])) (y:= .int κ i) (by rw[hx];rfl);have a3:=AV.conc_rel (hop y (by simp[A2])) (y:= .int κ' j) (by rw[hy];rfl);rw[hu] at a1;generalize hv:a.eval u=v at a1;have hT':=QdD hT.h he;have hel:=QhV hT';have hT'':P.underlying T=some (.slice (P.elem T)):=by rw[hel];exact hT'
  obtain⟨ad,len,cap,rfl⟩: ∃ad len cap,v= .slice ad len cap:=by cases a1 with|d _ _ h=>cases h<;>exact⟨_,_,_,rfl⟩
  have hr:RelD S w (.sl true E.size rows) (.slice ad len cap):=by cases a1;assumption
  obtain⟨b1,b2,b3⟩:=Qiy hr (l:=i.toNat) (h:=j.toNat) (by omega) (by omega);refine⟨_,?_,.d _ _ b3⟩;simp only[execOp,AB,AM,hv,a2,a3,A8,run_sliceAt_slice _ _ _ _ _ _ hT''];rw[run_slice_lh w T ad len cap hT'' _ _ _ _ h0 h1 (by omega),hel,Qeb hE.h];rfl
def Qg3{e:AA}{F:TyF}{rows:List (List D)} [hT:Ty P T F](he:F.elem=some e) [hE:Ty P e E](hu:aval env u= .d (.sl true E.size rows))(hy:aval env y= .d (.v (.int κ' j)))
 (h0:0<=j) (h2:j<=rows.length):Loc P ⟨dst,.slice T u none (some y) none,ty,pos,after,gd⟩ env H (.d (.sl true E.size (rows.take j.toNat))) none:=
 QR fun σ S H' a w _ hop _=>by
  have a1:=hop u (by simp[A2]);have a3:=AV.conc_rel (hop y (by simp[A2])) (y:= .int κ' j) (by rw[hy];rfl);rw[hu] at a1;generalize hv:a.eval u=v at a1;have hT':=QdD hT.h he;have hel:=QhV hT';have hT'':P.underlying T=some (.slice (P.elem T)):=by rw[hel];exact hT'
  obtain⟨ad,len,cap,rfl⟩: ∃ad len cap,v= .slice ad len cap:=by cases a1 with|d _ _ h=>cases h<;>exact⟨_,_,_,rfl⟩
  have hr:RelD S w (.sl true E.size rows) (.slice ad len cap):=by cases a1;assumption
  obtain⟨b1,b2,b3⟩:=Qiy hr (l:=0) (h:=j.toNat) (by omega) (by omega);rw[BF] at b3;refine⟨_,?_,.d _ _ b3⟩;simp only[execOp,AB,AM,hv,a3,A8,run_sliceAt_slice _ _ _ _ _ _ hT''];rw[run_slice_h w T ad len cap hT'' _ _ h0 (by omega),hel,Qeb hE.h];rfl
theorem Qhl{e:AA}{F:TyF}{x:AC}{rows:List (List D)} [hT:Ty P T F](he:F.elem=some e) [hE:Ty P e E](hu:aval env u= .d (.sl true E.size rows))(hx:aval env x= .d (.v (.int κ i)))
 (h0:0<=i) (h2:i<=rows.length):Loc P ⟨dst,.slice T u (some x) none none,ty,pos,after,gd⟩ env H (.d (.sl true E.size (rows.drop i.toNat))) none:=
 QR fun σ S H' a w _ hop _=>by
  have a1:=hop u (by simp[A2]);have a2:=AV.conc_rel (hop x (by simp[A2])) (y:= .int κ i) (by rw[hx];rfl);rw[hu] at a1;generalize hv:a.eval u=v at a1;have hT':=QdD hT.h he;have hel:=QhV hT';have hT'':P.underlying T=some (.slice (P.elem T)):=by rw[hel];exact hT'
  obtain⟨ad,len,cap,rfl⟩: ∃ad len cap,v= .slice ad len cap:=by cases a1 with|d _ _ h=>cases h<;>exact⟨_,_,_,rfl⟩
  have hr:RelD S w (.sl true E.size rows) (.slice ad len cap):=by cases a1;assumption
  obtain⟨b1,b2,b3⟩:=Qiy hr (l:=i.toNat) (h:=rows.length) (by omega) (by omega);rw[B4] at b3;subst b2;refine⟨_,?_,.d _ _ b3⟩;simp only[execOp,AB,AM,hv,a2,A8,run_sliceAt_slice _ _ _ _ _ _ hT''];rw[run_slice_l w T ad rows.length cap hT'' _ _ h0 (by omega),hel,Qeb hE.h];rfl
def Qnp{x:AC}(hx:aval env x= .d (.v (.int κ i)))(hy:aval env y= .d (.v (.int κ' j))):Loc P ⟨dst,.call ⟨.builtin .max, #[x,y], #[t1,t2]⟩,ty,pos,after,gd⟩ env H (.d (.v (.int κ (if j>i then j else i)))) none:=
 QR fun σ S H' a w _ hop _=>by
  have a2:=AV.conc_rel (hop x (by simp[A2,AH])) (y:= .int κ i) (by rw[hx];rfl);have a3:=AV.conc_rel (hop y (by simp[A2,AH])) (y:= .int κ' j) (by rw[hy];rfl);exact⟨_,by simp only[execOp,resolve,invoke,builtin,A8,AZ,AG,Al,Ak,Az,a2,a3,run_max_int2],.d _ _ (.v _)⟩
def Qno{x:AC}(hx:aval env x= .d (.v (.int κ i)))(hy:aval env y= .d (.v (.int κ' j))):Loc P ⟨dst,.call ⟨.builtin .min, #[x,y], #[t1,t2]⟩,ty,pos,after,gd⟩ env H (.d (.v (.int κ (if j<i then j else i)))) none:=
 QR fun σ S H' a w _ hop _=>by
  have a2:=AV.conc_rel (hop x (by simp[A2,AH])) (y:= .int κ i) (by rw[hx];rfl);have a3:=AV.conc_rel (hop y (by simp[A2,AH])) (y:= .int κ' j) (by rw[hy];rfl);exact⟨_,by simp only[execOp,resolve,invoke,builtin,A8,AZ,AG,Al,Ak,Az,a2,a3,run_min_int2],.d _ _ (.v _)⟩
end
def Qfr{f:AR}{args:List D}{vs:List AK}{xs:List AK}(ha:concL args=some vs)
 (h: ∀w,Pm.Lt w->Calls P f vs.toArray w fun e w'=>e= .returned (.tuple xs.toArray)/\BJ w.heap.size w w'):Pure P f args (.tup (xs.map D.ofV)):=by
 intro B σ S H w cargs hB hS hl hr;obtain rfl:=Qf7 ha hl hr;refine(h w (hB.ltOf hS)).mono ?_;rintro e w' ⟨rfl,hb⟩;refine⟨_,rfl,hb,.tup _ _ (by simp) fun i d v hd hv=>?_⟩;rw[A3,hv] at hd;obtain rfl:=A0 hd;exact D.ofV_rel _ _ _
variable{P:AD}
def rvC(P:AD)(env:List (Nat×AV)):AS->Option D
 |.tmp t=>match look env t with
  |.d x=>some x
  |_=>none
 |.cell t T=>match look env t with
  |.d (.pd cells)=>(tyf P T).bind fun F=>ldD F cells
  |_=>none
def allO:List (Option D)->Option (List D)
 |[]=>some []
 |some x::l=>(allO l).map (x:: ·)
 |none::_=>none
def resC(P:AD)(env:List (Nat×AV)):List AS->Option D
 |[r]=>rvC P env r
 |rs=>(allO (rs.map (rvC P env))).map .tup
def EndC(P:AD)(rs:List AS)(x:D):BD->St->Prop
 |.normal,s| .ret,s=>resC P s.env rs=some x
 |_,_=>False
attribute [go_sem] rvC allO resC
def Qlz: ∀{l:List (Option D)} {ds:List D},allO l=some ds->l=ds.map some
 |[],ds,h=>by obtain rfl:=A0 h;rfl
 |some x::l,ds,h=>by
  obtain⟨ds',h1,rfl⟩:=A7.1 h;rw[Qlz h1];rfl
 |none::_,_,h=>by cases h
def rvC_run{S:Nat->Prop}{H:List Blk}{n:Nat}{env:List (Nat×AV)}{B:Bs}{a:Act}(hA:SmA B σ S ⟨n,env,H⟩ a w){r:AS}{x:D}(hx:rvC P env r=some x):
 ∃v,(rvS a.tmps r).run P w= .ok v w/\RelD S w x v:=by
 cases r with
 |tmp t=>
  simp only[rvC] at hx;split at hx
  ·rename_i y hy
   obtain rfl:=A0 hx;refine⟨a.tmps.getD t undef,BH ..,?_⟩;have:=hA.env t;rw[hy] at this;cases this;omega
  ·cases hx
 |cell t T=>
  simp only[rvC] at hx;split at hx
  ·rename_i cells hy
   obtain⟨F,hF,hx⟩:=AX.1 hx;have:=hA.env t;rw[hy] at this;cases this with
   |d _ _ h=>
    generalize hv:a.tmps.getD t undef=pv at h;cases h with
    |pd _ b o g hS hc hr=>
     obtain⟨v,h1,h2⟩:=Qnx hF (b:=b) (o:=o) (w:=w) (S:=S) hx fun j d hd=>⟨g j,hc j d hd,hr j d hd⟩
     refine⟨v,?_,h2⟩;show(do loadVar T (<-asAddr (a.tmps.getD t undef)):Sem AK).run P w=_;rw[hv];exact h1
  ·cases hx
theorem Qhf{σ:Sg}{S:Nat->Prop}{H:List Blk}{n:Nat}{env:List (Nat×AV)}{B:Bs}{a:Act}{w:Ag}(hA:SmA B σ S ⟨n,env,H⟩ a w): ∀(rs:List AS) (ds:List D),allO (rs.map (rvC P env))=some ds->
 ∃vs,(rs.mapM (rvS a.tmps)).run P w= .ok vs w/\vs.length=ds.length/\ ∀(i:Nat) d v,ds[i]? =some d->vs[i]? =some v->RelD S w d v
 |[],ds,h=>by obtain rfl:=A0 h;simp
 |r::rs,ds,h=>by
  rw[Ak] at h;cases hr:rvC P env r with
  |none=>rw[hr] at h;cases h
  |some x=>
   rw[hr] at h;obtain⟨ds',h1,rfl⟩:=A7.1 h;obtain⟨v,h2,h3⟩:=rvC_run hA hr;obtain⟨vs,h4,h5,h6⟩:=Qhf hA rs ds' h1;refine⟨v::vs,?_,by simp[h5],fun i d u hd hu=>?_⟩
   ·simp_all
   grind
theorem Qik{f:AR}{fn:Func}{args:List D}{x:D}{n:Nat}(hf:P.funcs[f]? =some fn)(hb:fn.body=some c)(hn:fn.ntmps=n)(hrs:fn.results=rs.toArray)(hle:AJ args.length n=true)
 (h:AWP P c (EndC P rs x) ⟨n,parE 0 args,[]⟩):Pure P f args x:=by
 have hlen:args.length<=n:=A4 hle;intro B σ S H w cargs hB hS hl hr;refine calls_of_wp hf hb ?_
 have hA:SmA ⟨w,B.G,fun _=>False,S⟩ (fun _=>none) S ⟨n,parE 0 args,[]⟩ {tmps:=cargs.toArray++AL (fn.ntmps -cargs.toArray.size) undef,defers:=[]} w:=by
  refine⟨⟨rfl,rfl,rfl,AP _,fun _ _ _=>rfl,fun _ h=>h,fun b hb=>⟨(hS.sUp b hb).1,.inl hb⟩,fun k b hk=>by simp at hk,fun k k' b hk=>by simp at hk,fun k C hC=>by simp at hC⟩,rfl,?_,fun t=>?_⟩
  ·grind
  ·rcases Qmb args 0 t with⟨d,_,h2,h3⟩|h
   ·simp only
    rw[h3];have ht:t<cargs.length:=by grind
    have:(cargs.toArray++AL (fn.ntmps -cargs.toArray.size) undef).getD t undef=cargs[t]:=by
     rw[AE,AU (by omega)];simp[ht]
    rw[this];exact .d _ _ (hr t d _ (by omega) (A1 ht))
   ·simp only
    rw[h];exact .d _ _ (.any _)
 have hB':Gd ⟨w,B.G,fun _=>False,S⟩:=hB.again hS S;refine wp_mono (h _ hB' _ _ _ _ hA) ?_;rintro e a w' ⟨s',σ',S',hq,hA'⟩
 have fin:resC P s'.env rs=some x->a.defers=[]/\ ∃v,(results fn a.tmps).run P w'= .ok v w'/\ ∃v',Ar v= .returned v'/\BJ w.heap.size w w'/\RelD (fun b=>S b∨w.heap.size<=b/\b<w'.heap.size) w' x v':=by
  intro hx;have hbel:BJ w.heap.size w w':=⟨hA'.sm.os,hA'.sm.tape,hA'.sm.output,hA'.sm.size,fun k hk=>hA'.sm.keep k hk fun h=>h⟩
  have hup: ∀d v,RelD S' w' d v->RelD (fun b=>S b∨w.heap.size<=b/\b<w'.heap.size) w' d v:=fun d v h=>h.mono (fun b hb=>by
   obtain⟨h1,h2⟩:=hA'.sm.sUp b hb
   grind) fun _ _=>rfl
  refine⟨hA'.defers,?_⟩;obtain⟨n',env',H'⟩:=s'
  have gen: ∀vs,(rs.mapM (rvS a.tmps)).run P w'= .ok vs w'->(fn.results.mapM (rvS a.tmps)).run P w'= .ok vs.toArray w':=fun vs h=>by
   simp_all
  rw[Qfq]
  by_cases h1:rs.length=1
  ·match rs,h1 with
   |[r],_=>
    obtain⟨vs,g1,g2,g3⟩:=Qhf (P:=P) hA' [r] [x] (by
     have hx:rvC P env' r=some x:=hx
     simp[allO,hx])
    match vs,g2 with
    |[v],_=>
     refine⟨v,?_,_,rfl,hbel,hup _ _ (g3 0 x v rfl rfl)⟩;rw[A8,gen _ g1];rfl
  ·have hx':(allO (rs.map (rvC P env'))).map D.tup=some x:=by
    unfold resC at hx
    grind
   obtain⟨ds,hds,rfl⟩:=A7.1 hx';obtain⟨vs,g1,g2,g3⟩:=Qhf (P:=P) hA' rs ds hds;have hvl:vs.length=rs.length:=by have:=congrArg B5 (Qlz hds);grind
   refine⟨.tuple vs.toArray,?_,_,rfl,hbel,.tup ds vs (by omega) fun i d v hd hv=>hup _ _ (g3 i d v hd hv)⟩
   simp_all
 cases e with
 |normal=>exact fin hq
 |ret=>exact fin hq
 |_=>exact hq.elim
def QY{Q:BD->St->Prop}{n:Nat}{env:List (Nat×AV)}{H:List Blk}{x y:D}(hq:Q .ret ⟨n,env,H⟩=(resC P env rs=some x):=by rfl)
 (h: ∀R:Option D->Prop,R (some y)->R (resC P env rs):=by intro R hR;simp only[go_sem,Nat.reduceEqDiff,Nat.reduceAdd,Nat.reduceLT,Nat.reduceLeDiff,↓reduceIte,reduceCtorEq];exact hR) (hx:y=x):AWP P .ret Q ⟨n,env,H⟩:=
 QfS (by rw[hq];exact hx▸h (fun r=>r=some y) rfl)
def QmF{ops:Array AN}{Q:BD->St->Prop}{l:List AN}{s s':St}(h:Weak s s')(hc:ASeq P ops Q l s'):ASeq P ops Q l s:=fun B hB σ S a w hA=>let⟨σ',S',h1⟩:=h B σ S a w hA;hc B hB σ' S' a w h1
def Ql8{α β:Type}(f:α->β)(l:List α):List.take l.length (BU f l)=BU f l:=List.take_of_length_le (by simp)
theorem Qe4(k:Nat){C:Blk}{ops:Array AN}{Q:BD->St->Prop}{l:List AN}{n:Nat}{env:List (Nat×AV)}{H H':List Blk}(hC:H[k]? =some C:=by rfl)
 (he: ∀R:List (Nat×AV)->Prop,R env'->R (frzE k C env):=by intro R hR;simp only[frzE,AV.frz,AV.frzL,Blk.gen,Blk.iceP,Blk.iceS,Blk.iceM,AV.data,beq_self_eq_true,Nat.reduceBEq,Bool.and_self,Bool.and_true,Bool.true_and,Bool.false_and,Bool.and_false,cond_true,cond_false,List.drop_zero,List.drop_succ_cons,List.map_cons,List.map_nil,Ql8];exact hR)
 (hh: ∀R:List Blk->Prop,R H'->R ((H.set k C.dead).map (Blk.frz k C)):=by intro R hR;simp only[Blk.dead,Blk.frz,AV.frz,AV.frzL,Blk.gen,Blk.iceP,Blk.iceS,Blk.iceM,AV.data,List.set_cons_zero,List.set_cons_succ,List.map_cons,List.map_nil,Nat.zero_add,beq_self_eq_true,Nat.reduceBEq,Bool.and_self,Bool.and_true,Bool.true_and,Bool.false_and,Bool.and_false,cond_true,cond_false,List.drop_zero,List.drop_succ_cons];exact hR)
 (h:ASeq P ops Q l ⟨n,env',H'⟩):ASeq P ops Q l ⟨n,env,H⟩:=by
 have h1:=he (fun r=>r=env') rfl;have h2:=hh (fun r=>r=H') rfl;subst h1;subst h2;exact QmF (QgL k hC) h
def AStep(P:AD)(ops:Array AN)(o:AN)(K:St->Prop)(s:St):Prop:=
 ∃R,EffE P o s.env s.H R/\awanted ops s.env o=some true/\dstOk s.n o.dst=true/\gdOk ops s.n o=true/\ ∀x H',R x H'->K ⟨s.n,putE s.env o.dst x,H'⟩
theorem astep{P:AD}{ops:Array AN}{K:St->Prop}{n:Nat}{env:List (Nat×AV)}{H H':List Blk}{x:AV}(h:Eff P o env H x H')(hw:awanted ops env o=some true)(hd:dstOk n o.dst=true)(hg:gdOk ops n o=true)
 (k:K ⟨n,putE env o.dst x,H'⟩):AStep P ops o K ⟨n,env,H⟩:=⟨_,h.e,hw,hd,hg,by grind⟩
section
variable{P:AD}{ops:List AN}{B:Bs}
end
variable{P:AD}
section
variable{ops:Array AN}{Q:BD->St->Prop}{K:St->Prop}{l:List AN}{n:Nat}{env:List (Nat×AV)}{H H':List Blk}{d:BQ}{op:Op}{ty:AA}{pos:String}{after:Array B1}{gd:Option (Nat×Bool)}{x x':AV}
def QoZ(ks:List Nat){f:AR}(h:Does P f args H0 [] x H1)(hf: ∀args w,(callFunc f args).run P w= .ok (.enter f args) w)
 (hargs:xs.toList.map (aval env)=AV.renL (rho ks H.length) args:=by rfl) (hks:ks.map (fun k=>H[k]?)=(H0.map (Blk.ren (rho ks H.length))).map some:=by rfl) (hnd:ks.Nodup:=by decide)
 (hla:AV.ltL H0.length args=true:=by rfl) (hlH:H0.all (Blk.lt H0.length)=true:=by rfl)
 (hX: ∀R:AV->Prop,R x'->R (x.ren (rho ks H.length)):=by intro R hR;simp only[AV.ren,AV.renL,rho,List.getElem?_cons_zero,List.getElem?_cons_succ];exact hR)
 (hH: ∀R:List Blk->Prop,R H'->R (place (rho ks H.length) H ks H1++(H1.drop ks.length).map (Blk.ren (rho ks H.length))):=by intro R hR;simp only[place,Blk.ren,AV.ren,AV.renL,List.map_cons,List.map_nil,List.set_cons_zero,List.set_cons_succ,List.drop_succ_cons,List.drop_zero,List.drop_nil,List.append_nil,List.length_cons,List.length_nil,Nat.reduceAdd,Nat.zero_add];exact hR)
 (hw:awanted ops env ⟨some d,.call ⟨.value (.func f),xs,tys⟩,ty,pos,after,gd⟩=some true:=by rfl) (hd:AI d n=true:=by rfl) (hg:gdOk ops n ⟨some d,.call ⟨.value (.func f),xs,tys⟩,ty,pos,after,gd⟩=true:=by rfl)
 (k:ASeq P ops Q l ⟨n,(d,x')::env,H'⟩):ASeq P ops Q (⟨some d,.call ⟨.value (.func f),xs,tys⟩,ty,pos,after,gd⟩::l) ⟨n,env,H⟩:=by
 refine Qiv (Qi5 ks h (Qet hf) hargs hks hnd hla rfl hlH (fun g hg=>by cases hg)) hw hd hg ?_;have h1:=hX (fun r=>r=x') rfl;have h2:=hH (fun r=>r=H') rfl;rw[h1,h2];exact k
def Qh7(ks:List Nat){f:AR}(h:Does P f args H0 [] x H1)(hf: ∀args w,(callFunc f args).run P w= .ok (.enter f args) w)
 (hargs:xs.toList.map (aval env)=AV.renL (rho ks H.length) args:=by rfl) (hks:ks.map (fun k=>H[k]?)=(H0.map (Blk.ren (rho ks H.length))).map some:=by rfl) (hnd:ks.Nodup:=by decide)
 (hla:AV.ltL H0.length args=true:=by rfl) (hlH:H0.all (Blk.lt H0.length)=true:=by rfl)
 (hX: ∀R:AV->Prop,R x'->R (x.ren (rho ks H.length)):=by intro R hR;simp only[AV.ren,AV.renL,rho,List.getElem?_cons_zero,List.getElem?_cons_succ];exact hR)
 (hH: ∀R:List Blk->Prop,R H'->R (place (rho ks H.length) H ks H1++(H1.drop ks.length).map (Blk.ren (rho ks H.length))):=by intro R hR;simp only[place,Blk.ren,AV.ren,AV.renL,List.map_cons,List.map_nil,List.set_cons_zero,List.set_cons_succ,List.drop_succ_cons,List.drop_zero,List.drop_nil,List.append_nil,List.length_cons,List.length_nil,Nat.reduceAdd,Nat.zero_add];exact hR)
 (hw:awanted ops env ⟨some d,.call ⟨.value (.func f),xs,tys⟩,ty,pos,after,gd⟩=some true:=by rfl) (hd:AI d n=true:=by rfl) (hg:gdOk ops n ⟨some d,.call ⟨.value (.func f),xs,tys⟩,ty,pos,after,gd⟩=true:=by rfl)
 (k:K ⟨n,(d,x')::env,H'⟩):AStep P ops ⟨some d,.call ⟨.value (.func f),xs,tys⟩,ty,pos,after,gd⟩ K ⟨n,env,H⟩:=by
 refine astep (Qi5 ks h (Qet hf) hargs hks hnd hla rfl hlH (fun g hg=>by cases hg)) hw hd hg ?_;have h1:=hX (fun r=>r=x') rfl;have h2:=hH (fun r=>r=H') rfl;rw[h1,h2];exact k
def Qel(ts:List Nat)(m:Nat){Q:BD->St->Prop}
 (he: ∀R:List (Nat×AV)->Prop,R env'->R (keepE env ts):=by intro R hR;simp only[keepE,go_sem,Nat.reduceEqDiff,Nat.reduceAdd,Nat.reduceLT,Nat.reduceLeDiff,↓reduceIte,reduceCtorEq];exact hR)
 (hH: ∀R:List Blk->Prop,R H'->R (H.take m):=by intro R hR;simp only[List.take_succ_cons,List.take_zero];exact hR)
 (h1:envLt m env'=true:=by rfl) (h2:H'.all (Blk.lt m)=true:=by rfl) (h:AWP P c Q ⟨n,env',H'⟩):AWP P c Q ⟨n,env,H⟩:=by
 have e1:=he (fun r=>r=env') rfl;have e2:=hH (fun r=>r=H') rfl;exact QgD (Qhd ts m e1 e2 h1 h2) h
def Qek{Q:BD->St->Prop}{gvs:List AK}{y:AV}(hq:Q .ret ⟨n,env,H⟩=(resA env rs=some x/\H=H1/\look env gslot= .gh gl gvs):=by rfl)
 (h: ∀R:Option AV->Prop,R (some y)->R (resA env rs):=by intro R hR;simp only[resA,allR,go_sem,Nat.reduceEqDiff,Nat.reduceAdd,Nat.reduceLT,Nat.reduceLeDiff,↓reduceIte,reduceCtorEq];exact hR)
 (hg:look env gslot= .gh gl gvs:=by rfl) (hx:y=x) (hH:H=H1):AWP P .ret Q ⟨n,env,H⟩:=
 QfS (by rw[hq];exact⟨hx▸h (fun r=>r=some y) rfl,hH,hg⟩)
end
variable{P:AD}
section
variable{dst:Option BQ}{ty:AA}{pos:String}{after:Array B1}{gd:Option (Nat×Bool)}{env:List (Nat×AV)}{H:List Blk}
def Qdq{cells:List D}(hu:aval env u= .d (.pd cells)):Loc P ⟨dst,.nilCheck u,ty,pos,after,gd⟩ env H (.d (.pd cells)) none:=
 QR fun σ S H' a w _ hop _=>by
  have a1:=hop u (by simp[A2]);rw[hu] at a1;generalize hv:a.eval u=v at a1;cases a1 with
  |d _ _ h=>
   cases h with
   |pd _ b o g hS hc hr=>exact⟨_,by simp[execOp,hv],.d _ _ (.pd _ b o g hS hc hr)⟩
theorem Qhn{g o:Nat}{cells:List AV}(hu:aval env u= .ptr k g o)(hk:H[k]? =some (.row g cells)):Loc P ⟨dst,.nilCheck u,ty,pos,after,gd⟩ env H (.ptr k g o) none:=
 QR fun σ S H' a w _ hop hag=>by
  have a1:=hop u (by simp[A2]);rw[hu] at a1;generalize hv:a.eval u=v at a1;cases a1 with
  |ptr _ _ _ _ ho g' cells' hk' hg h=>
   have hgg:g'=g:=by
    rcases hag k _ hk with h1|h1
    ·grind
    grind
   obtain⟨b,hb,rfl⟩:=h hgg;exact⟨_,by simp[execOp,hv],.ptr _ _ _ _ ho g' cells' hk' hg h⟩
theorem Qgi{fn:Fn}:Loc P ⟨dst,.makeFunc fn #[] xs,ty,pos,after,gd⟩ env H (.fn fn (xs.toList.map (aval env))) none:=
 QR fun σ S H' a w _ hop _=>by
  refine⟨.func fn #[] (xs.map a.eval),by simp[execOp,Instr.makeFunc],?_⟩;have:xs.map a.eval=(xs.toList.map a.eval).toArray:=by grind
  rw[this];refine .fn _ _ _ (by simp) fun i d x hd hx=>?_
  rw[A3] at hd hx;cases hi:xs.toList[i]? with
  |none=>grind
  |some u=>
   rw[hi] at hd hx;obtain rfl:=A0 hd;obtain rfl:=A0 hx;exact hop u (by simp only[A2,Array.empty_append];grind)
theorem QrK{e:AA}{F:TyF}{z:AC}{rows:List (List D)} [hT:Ty P T F](he:F.elem=some e) [hE:Ty P e E](hu:aval env u= .d (.sl true E.size rows))(hy:aval env y= .d (.v (.int κ j)))(hz:aval env z= .d (.v (.int κ' j)))
 (h0:0<=j) (h2:j<=rows.length):Loc P ⟨dst,.slice T u none (some y) (some z),ty,pos,after,gd⟩ env H (.d (.sl true E.size (rows.take j.toNat))) none:=
 QR fun σ S H' a w _ hop _=>by
  have a1:=hop u (by simp[A2]);have a2:=AV.conc_rel (hop y (by simp[A2])) (y:= .int κ j) (by rw[hy];rfl);have a3:=AV.conc_rel (hop z (by simp[A2])) (y:= .int κ' j) (by rw[hz];rfl);rw[hu] at a1;generalize hv:a.eval u=v at a1;have hT':=QdD hT.h he;have hel:=QhV hT';have hT'':P.underlying T=some (.slice (P.elem T)):=by grind
  obtain⟨ad,len,cap,rfl⟩: ∃ad len cap,v= .slice ad len cap:=by cases a1 with|d _ _ h=>cases h<;>grind
  have hr:RelD S w (.sl true E.size rows) (.slice ad len cap):=by cases a1;omega
  have hcap:j.toNat<=cap:=by
   obtain⟨b1,b2,b3⟩:=Qiy hr (l:=0) (h:=j.toNat) (by omega) (by omega);exact b1
  have hres:RelD S w (.sl true E.size (rows.take j.toNat)) (sliced ad 0 j.toNat j.toNat E.size):=by
   unfold sliced;cases hr with
   |slnil=>
    have:j.toNat=0:=by grind
    rw[this];simp only[BI,Ap];exact .slnil _ _ _ _
   |sl _ _ _ b o cap g hS hn hc2 hc hrr=>
    by_cases hm:j.toNat=0
    ·rw[hm];simp only[BE,Ap];exact .slnil _ _ _ _
    ·rw[if_neg hm]
     have hlen:(rows.take j.toNat).length=j.toNat:=by grind
     have hget: ∀(i:Nat) r,(rows.take j.toNat)[i]? =some r->rows[i]? =some r:=fun i r hr=>by
      grind
     have:=RelD.sl (S:=S) (w:=w) true E.size (rows.take j.toNat) b o j.toNat g hS (fun r hr=>hn r (AT hr)) (fun _=>by omega)
      (fun i j r d hi hj=>hc i j r d (hget i r hi) hj) (fun i j r d hi hj=>hrr i j r d (hget i r hi) hj)
     rw[hlen] at this;simp only[AB,Qef,Nat.zero_mul,BL,Ap];omega
  refine⟨_,?_,.d _ _ hres⟩;simp only[execOp,AB,AM,hv,a2,a3,A8,run_sliceAt_slice _ _ _ _ _ _ hT''];rw[run_slice_hm w T ad len cap hT'' _ _ _ _ h0 (BO _) (by omega),hel,Qeb hE.h];rfl
end
theorem QnY(t:Nat)(b:Bool)(m:Nat){n:Nat}{env:List (Nat×AV)}{H:List Blk}(ht:look env t= .d (.v (.slice a₀ 0 k₀))):Weak ⟨n,env,H⟩ ⟨n,(t,.d (.sl b m []))::env,H⟩:=by
 intro B σ S a w hA;refine⟨σ,S,hA.sm,hA.defers,hA.size,fun u=>?_⟩
 by_cases hu:t=u
 ·subst hu
  show Rel _ _ _ _ (look ((t,_)::env) t) _;rw[Qdv];have:=AV.conc_rel (hA.env t) (y:= .slice a₀ 0 k₀) (by show(look env t).conc=_;rw[ht];rfl);rw[this];exact .d _ _ (.slnil _ _ _ _)
 ·show Rel _ _ _ _ (look ((t,_)::env) u) _
  rw[Qd1 hu];exact hA.env u
def Qd7(t:Nat)(b:Bool)(m:Nat){Q:BD->St->Prop}{n:Nat}{env:List (Nat×AV)}{H:List Blk}(ht:look env t= .d (.v (.slice a₀ 0 k₀)):=by rfl)
 (h:AWP P c Q ⟨n,(t,.d (.sl b m []))::env,H⟩):AWP P c Q ⟨n,env,H⟩:=QgD (QnY t b m ht) h
def PureF(P:AD)(f:AR)(args:List AV)(x:D):Prop:=
 ∀(B:Bs) (S:Nat->Prop) (w:Ag) (cargs:List AK),Gd B->Sm B (fun _=>none) S [] w->args.length=cargs.length->(∀(i:Nat) d v,args[i]? =some d->cargs[i]? =some v->Rel (fun _=>none) S [] w d v)->
  Calls P f cargs.toArray w fun e w'=> ∃v,e= .returned v/\BJ w.heap.size w w'/\RelD (fun b=>S b∨w.heap.size<=b/\b<w'.heap.size) w' x v
def Sm.empty{B:Bs}{S:Nat->Prop}{H:List Blk}(hS:Sm B σ S H w):Sm ⟨w,B.G,fun _=>False,S⟩ (fun _=>none) S [] w:=
 ⟨rfl,rfl,rfl,AP _,fun _ _ _=>rfl,fun _ h=>h,fun b hb=>⟨(hS.sUp b hb).1,.inl hb⟩,fun k b hk=>by simp at hk,fun k k' b hk=>by simp at hk,fun k C hC=>by simp at hC⟩
theorem QlM{f:AR}{fn:Func}{x:D}{n:Nat}(hf:P.funcs[f]? =some fn)(hb:fn.body=some c)(hn:fn.ntmps=n)(hrs:fn.results=rs.toArray)(hle:AJ args.length n=true)
 (h:AWP P c (EndC P rs x) ⟨n,parA 0 args,[]⟩):PureF P f args x:=by
 have hlen:args.length<=n:=A4 hle;intro B S w cargs hB hS hl hr;refine calls_of_wp hf hb ?_
 have hA:SmA ⟨w,B.G,fun _=>False,S⟩ (fun _=>none) S ⟨n,parA 0 args,[]⟩ {tmps:=cargs.toArray++AL (fn.ntmps -cargs.toArray.size) undef,defers:=[]} w:=by
  refine⟨hS.empty,rfl,?_,fun t=>?_⟩
  ·grind
  ·rcases Qhk args 0 t with⟨d,_,h2,h3⟩|h
   ·simp only
    rw[h3];have ht:t<cargs.length:=by grind
    have:(cargs.toArray++AL (fn.ntmps -cargs.toArray.size) undef).getD t undef=cargs[t]:=by
     rw[AE,AU (by omega)];simp[ht]
    rw[this];exact hr t d _ (by omega) (A1 ht)
   ·simp only
    rw[h];exact .d _ _ (.any _)
 have hB':Gd ⟨w,B.G,fun _=>False,S⟩:=hB.again hS S;refine wp_mono (h _ hB' _ _ _ _ hA) ?_;rintro e a w' ⟨s',σ',S',hq,hA'⟩
 have fin:resC P s'.env rs=some x->a.defers=[]/\ ∃v,(results fn a.tmps).run P w'= .ok v w'/\ ∃v',Ar v= .returned v'/\BJ w.heap.size w w'/\RelD (fun b=>S b∨w.heap.size<=b/\b<w'.heap.size) w' x v':=by
  intro hx;have hbel:BJ w.heap.size w w':=⟨hA'.sm.os,hA'.sm.tape,hA'.sm.output,hA'.sm.size,fun k hk=>hA'.sm.keep k hk fun h=>h⟩
  have hup: ∀d v,RelD S' w' d v->RelD (fun b=>S b∨w.heap.size<=b/\b<w'.heap.size) w' d v:=fun d v h=>h.mono (fun b hb=>by
   obtain⟨h1,h2⟩:=hA'.sm.sUp b hb
   grind) fun _ _=>rfl
  refine⟨hA'.defers,?_⟩;obtain⟨n',env',H'⟩:=s'
  have gen: ∀vs,(rs.mapM (rvS a.tmps)).run P w'= .ok vs w'->(fn.results.mapM (rvS a.tmps)).run P w'= .ok vs.toArray w':=fun vs h=>by
   simp_all
  rw[Qfq]
  by_cases h1:rs.length=1
  ·match rs,h1 with
   |[r],_=>
    obtain⟨vs,g1,g2,g3⟩:=Qhf (P:=P) hA' [r] [x] (by
     have hx:rvC P env' r=some x:=hx
     simp[allO,hx])
    match vs,g2 with
    |[v],_=>
     refine⟨v,?_,_,rfl,hbel,hup _ _ (g3 0 x v rfl rfl)⟩;rw[A8,gen _ g1];rfl
  ·have hx':(allO (rs.map (rvC P env'))).map D.tup=some x:=by
    unfold resC at hx
    grind
   obtain⟨ds,hds,rfl⟩:=A7.1 hx';obtain⟨vs,g1,g2,g3⟩:=Qhf (P:=P) hA' rs ds hds;have hvl:vs.length=rs.length:=by have:=congrArg B5 (Qlz hds);grind
   refine⟨.tuple vs.toArray,?_,_,rfl,hbel,.tup ds vs (by omega) fun i d v hd hv=>hup _ _ (g3 i d v hd hv)⟩
   simp_all
 cases e with
 |normal=>exact fin hq
 |ret=>exact fin hq
 |_=>exact hq.elim
def AV.pureA:AV->Bool
 |.d _=>true
 |.fn _ l=>(allD l).isSome
 |_=>false
theorem Qrf{S:Nat->Prop}{H H':List Blk}{x:AV}{v:AK}(h:Rel σ S H w x v)(hx:x.pureA=true):Rel σ' S H' w x v:=by
 cases h with
 |d x v h=>exact .d _ _ h
 |fn f l cs hl hr=>
  obtain⟨ds,hds⟩:=Option.isSome_iff_exists.1 hx;have he:=QfU hds;refine .fn f l cs hl fun i d x hd hxx=>?_
  have h1:=hr i d x hd hxx;rw[he,A3] at hd;cases hdi:ds[i]? with
  |none=>grind
  |some d'=>
   rw[hdi] at hd;obtain rfl:=A0 hd;cases h1;exact .d _ _ (by assumption)
 |_=>cases hx
section
variable{dst:Option BQ}{ty:AA}{pos:String}{after:Array B1}{gd:Option (Nat×Bool)}{env:List (Nat×AV)}{H:List Blk}
def QdX{f:AR}{x:D}
 (hf: ∀args w,(callFunc f args).run P w= .ok (.enter f args) w) (h:PureF P f args x) (hargs:xs.toList.map (aval env)=args) (hp:args.all AV.pureA=true):
 Loc P ⟨dst,.call ⟨.value (.func f),xs,tys⟩,ty,pos,after,gd⟩ env H (.d x) none:=by
 intro B σ S H' a w hB hS hop _ _ K Q k;obtain⟨cargs,h1,h2,h3⟩:=Qet (P:=P) (dst:=dst) (ty:=ty) (pos:=pos) (after:=after) (gd:=gd) (tys:=tys) hf σ S H' w a hop;unfold BM;rw[h1,Af];rw[hargs] at h2 h3;refine(h _ S w cargs (hB.again hS S) hS.empty h2 fun i d v hd hv=>Qrf (h3 i d v hd hv) (AW.1 hp d (Ax hd))).mono ?_;rintro e w' ⟨v,rfl,hb,hr⟩;obtain⟨h3,h4⟩:=hS.below hb;exact k v w' σ _ h3 (.d _ _ hr) h4
theorem Qe0{f:AR}{x:D}
 (hf: ∀args w,(callFunc f args).run P w= .ok (.enter f args) w) (h:Pure P f ds x) (ht:look env t= .fn (.func f) caps) (hd:allD (xs.toList.map (aval env)++caps)=some ds):
 Loc P ⟨dst,.call ⟨.value (.tmp t),xs,tys⟩,ty,pos,after,gd⟩ env H (.d x) none:=by
 intro B σ S H' a w hB hS hop _ _ K Q k;obtain⟨cargs,h1,h2,h3⟩:=QoT (P:=P) (dst:=dst) (ty:=ty) (pos:=pos) (after:=after) (gd:=gd) (tys:=tys) hf ht σ S H' w a hop;unfold BM;rw[h1,Af];have he:=QfU hd;rw[he] at h2 h3;refine(h B σ S H' w cargs hB hS (by grind) fun i d v hdi hv=>?_).mono ?_
 ·have:=h3 i (.d d) v (by grind) hv
  cases this;omega
 rintro e w' ⟨v,rfl,hb,hr⟩;obtain⟨h3,h4⟩:=hS.below hb;exact k v w' σ _ h3 (.d _ _ hr) h4
end
variable{P:AD}
section
variable{dst:Option BQ}{ty:AA}{pos:String}{after:Array B1}{gd:Option (Nat×Bool)}{env:List (Nat×AV)}{H:List Blk}
theorem QeK{fn:Fn}{x:AV}(hu:aval env u=x):Loc P ⟨dst,.makeFunc fn #[] #[u],ty,pos,after,gd⟩ env H (.fn fn [x]) none:=by
 have:=Qgi (P:=P) (dst:=dst) (ty:=ty) (pos:=pos) (after:=after) (gd:=gd) (env:=env) (H:=H) (fn:=fn) (xs:= #[u])
 grind
theorem QkN{fn:Fn}{u':AC}{x x':AV}(hu:aval env u=x)(hu':aval env u'=x'):Loc P ⟨dst,.makeFunc fn #[] #[u,u'],ty,pos,after,gd⟩ env H (.fn fn [x,x']) none:=by
 have:=Qgi (P:=P) (dst:=dst) (ty:=ty) (pos:=pos) (after:=after) (gd:=gd) (env:=env) (H:=H) (fn:=fn) (xs:= #[u,u'])
 grind
end
def AV.weak1:AV->AV
 |.d x=> .d x.weak
 |x=>x
theorem PureF.arg{f:AR}{l l':List AV}{x:D}(h:PureF P f l' x)(ha:l.map AV.weak1=l':=by rfl):PureF P f l x:=by
 intro B S w cargs hB hS hl hr;subst ha;refine h B S w cargs hB hS (by simpa using hl) fun i d v hd hv=>?_
 rw[A3] at hd;obtain⟨d0,h1,rfl⟩:=A7.1 hd;have h2:=hr i d0 v h1 hv;cases h2 with
 |d x v h=>exact .d _ _ h.weak
 |agg l cs hl h=>exact .agg l cs hl h
 |tup l cs hl h=>exact .tup l cs hl h
 |ptr=>exact hr i _ _ h1 hv
 |fn f l cs hl h=>exact .fn f l cs hl h
 |_=>exact hr i _ _ h1 hv
section
variable{P:AD}{ops:Array AN}{K:St->Prop}{n:Nat}{env:List (Nat×AV)}{H H':List Blk}{d:BQ}{ty:AA}{pos:String}{after:Array B1}{gd:Option (Nat×Bool)}
theorem QuA{e:AA}{F:TyF}{s x:AC}{g len:Nat}{rows:List (List D)}{r:List D}(hT:tyf P T=some F)(he:F.elem=some e)(hE:tyf P e=some E)(hz:E.zero.length=E.size:=by rfl)(hpos:AI 0 E.size=true:=by rfl)
 (hs:aval env s= .osl k g 0 len:=by rfl) (hk:H[k]? =some (.arr g E.size e rows):=by rfl) (hlen:len=rows.length:=by first|rfl|simp)
 (hx:aval env x= .osl k2 g2 0 1:=by rfl) (hk2:H[k2]? =some (.arr g2 E.size T2 [r]):=by rfl) (hcell:r.all D.cell=true:=by rfl)
 (hb:(rows.length+1)*E.bytes<=140737488355328)
 (hw:awanted ops env ⟨some d,.call ⟨.builtin .append, #[s,x], #[T,T]⟩,ty,pos,after,gd⟩=some true:=by rfl) (hd:AI d n=true:=by rfl) (hg:gdOk ops n ⟨some d,.call ⟨.builtin .append, #[s,x], #[T,T]⟩,ty,pos,after,gd⟩=true:=by rfl)
 (hH: ∀R:List Blk->Prop,R H'->R (H.set k (.arr (g+1) E.size e (rows++[r]))):=by intro R hR;simp only[List.set_cons_zero,List.set_cons_succ,Nat.zero_add,Nat.reduceAdd];exact hR)
 (hby:AI 0 E.bytes=true:=by rfl)
 (kk:K ⟨n,(d,.osl k (g+1) 0 (rows.length+1))::env,H'⟩):AStep P ops ⟨some d,.call ⟨.builtin .append, #[s,x], #[T,T]⟩,ty,pos,after,gd⟩ K ⟨n,env,H⟩:=by
 have hby':0<E.bytes:=by simpa using hby
 have hmul:rows.length+1<=(rows.length+1)*E.bytes:=AO _ hby';refine astep (Qjz (newrows:=[r]) hT he hE hz (by simp_all) hs hk hlen (QqW hx hk2 rfl (cells1 r hcell)) (by omega) (by simp;omega)) hw hd hg ?_;have:=hH (fun r=>r=H') rfl;rw[this];simpa[putE] using kk
theorem Qi9{e:AA}{F:TyF}{s x:AC}{g len:Nat}{c:Bool}{rows:List (List D)}(hT:tyf P T=some F)(he:F.elem=some e)(hE:tyf P e=some E)(hz:E.zero.length=E.size:=by rfl)(hpos:AI 0 E.size=true:=by rfl)
 (hs:aval env s= .osl k g 0 len:=by rfl) (hk:H[k]? =some (.arr g E.size e rows):=by rfl) (hlen:len=rows.length:=by first|rfl|simp)
 (hx:aval env x= .d (.sl c E.size newrows):=by rfl) (hcell: ∀r∈newrows,∀d∈r,d.cell=true)
 (hb:(rows.length+newrows.length)*E.bytes<=140737488355328)
 (hw:awanted ops env ⟨some d,.call ⟨.builtin .append, #[s,x], #[T,T]⟩,ty,pos,after,gd⟩=some true:=by rfl) (hd:AI d n=true:=by rfl) (hg:gdOk ops n ⟨some d,.call ⟨.builtin .append, #[s,x], #[T,T]⟩,ty,pos,after,gd⟩=true:=by rfl)
 (hH: ∀R:List Blk->Prop,R H'->R (H.set k (.arr (g+1) E.size e (rows++newrows))):=by intro R hR;simp only[List.set_cons_zero,List.set_cons_succ,Nat.zero_add,Nat.reduceAdd];exact hR)
 (hby:AI 0 E.bytes=true:=by rfl)
 (kk:K ⟨n,(d,.osl k (g+1) 0 (rows.length+newrows.length))::env,H'⟩):AStep P ops ⟨some d,.call ⟨.builtin .append, #[s,x], #[T,T]⟩,ty,pos,after,gd⟩ K ⟨n,env,H⟩:=by
 have hby':0<E.bytes:=by simpa using hby
 have hmul:rows.length+newrows.length<=(rows.length+newrows.length)*E.bytes:=AO _ hby';refine astep (Qjz (newrows:=newrows) hT he hE hz (by simp_all) hs hk hlen (QqV hx hcell) hb (by omega)) hw hd hg ?_;have:=hH (fun r=>r=H') rfl;rw[this];simpa[putE] using kk
end
def memN:List Nat->Nat->Bool
 |[],_=>false
 |m::r,i=>bif BK m i then true else memN r i
theorem QdI: ∀{l:List Nat} {i:Nat},memN l i=true↔i∈l
 |[],i=>by simp[memN]
 |m::r,i=>by
  unfold memN;cases h:BK m i with
  |true=>simp_all
  |false=>
   have:m≠i:=fun e=>by simp_all
   simp only[cond_false,BG];rw[QdI]
   grind
def opT(o:AN):List Nat:=o.op.operands.toList.filterMap fun| .tmp t=>some t|_=>none
def quietB(ops:List AN)(fl:List Nat)(q:Nat):Bool:=ops.zipIdx.all fun(p,j)=>memN fl j|| !(p.dst==some q)
def Quiet(ops:List AN)(fl:List Nat)(q:Nat):Prop:= ∀(j:Nat) p,ops[j]? =some p->memN fl j=false->p.dst≠some q
def ascN:List Nat->Bool
 |[]=>true
 |f::r=>r.all (AI f)&&ascN r
def float1(ops:List AN)(fl:List Nat)(n f:Nat):Bool:=
 match ops[f]? with
 |none=>false
 |some o=>match o.dst,o.guard with
  |some t,none=>AI t n&& !(opT o).elem t&&(opT o).all (quietB ops fl)&&ops.zipIdx.all fun(p,j)=>bif AI j f then !(names ops p).elem t else BK j f|| !(p.dst==some t)
  |_,_=>false
def floatOk(ops:List AN)(fl:List Nat)(n:Nat):Bool:=ascN fl&&fl.all (float1 ops fl n)
structure FlSt(ops:List AN)(fl:List Nat)(n f:Nat)(o:AN)(t:Nat):Prop where
 op:ops[f]? =some o
 dst:o.dst=some t
 guard:o.guard=none
 lt:t<n
 own:B6 t∉o.op.operands
 quiet: ∀q,B6 q∈o.op.operands->Quiet ops fl q
 before: ∀(j:Nat) p,j<f->ops[j]? =some p->t∉names ops p
 sole: ∀(j:Nat) p,j≠f->ops[j]? =some p->p.dst≠some t
def QhF{t:Nat}(h:B6 t∈o.op.operands):t∈opT o:=List.mem_filterMap.2 ⟨.tmp t,Array.mem_toList_iff.2 h,rfl⟩
theorem QmZ{ops:List AN}{fl:List Nat}{q:Nat}(h:quietB ops fl q=true):Quiet ops fl q:=by
 intro j p hp hm e;unfold quietB at h;rw[AW] at h;have:=h (p,j) (Aa.2 hp)
 grind
theorem Qe1{ops:List AN}{fl:List Nat}{n f:Nat}(h:float1 ops fl n f=true): ∃o t,FlSt ops fl n f o t:=by
 unfold float1 at h;split at h
 ·cases h
 rename_i o ho;split at h;rotate_left
 ·cases h
 rename_i t ht hg;simp only[Ac,B0,AW] at h;obtain⟨⟨⟨h1,h2⟩,h3⟩,h4⟩:=h;have hown:t∉opT o:=fun hm=>by grind
 have hz: ∀(j:Nat) p,ops[j]? =some p->(p,j)∈ops.zipIdx:=fun j p hp=>Aa.2 hp
 have key: ∀(j:Nat) p,j<f->ops[j]? =some p->t∉names ops p:=fun j p hj hp hm=>by
  have:=h4 (p,j) (hz j p hp);have hb:AI j f=true:=by simpa using hj
  grind
 refine⟨o,t,ho,ht,hg,by simp_all,fun hm=>hown (QhF hm),fun q hq=>QmZ (h3 q (QhF hq)),key,fun j p hj hp e=>?_⟩;rcases BN j f with hlt|hge
 ·exact key j p hlt hp (by simp[names,e])
 ·have:=h4 (p,j) (hz j p hp)
  have hb:AI j f=false:=by
   cases hb:AI j f
   ·rfl
   ·have:j<f:=by simp_all
    omega
  simp_all
def barOkF(ops:List AN)(fl:List Nat)(m:Nat):Bool:=
 let b:=befs ops []
 !memN fl m&&((BB m).all fun j=>memN fl j||(b.getD m 0).testBit j)&&((BB ops.length).all fun i=>AJ i m||memN fl i||(b.getD i 0).testBit m)
theorem Qj6{ops:List AN}{fl:List Nat}(h:barOkF ops fl m=true):memN fl m=false/\(∀j,j<m->memN fl j=false->((befs ops []).getD m 0).testBit j=true)/\
 ∀i,i<ops.length->m<i->memN fl i=false->((befs ops []).getD i 0).testBit m=true:=by
 unfold barOkF at h;simp only[Ac,AW,BC,B0] at h;obtain⟨⟨h0,h1⟩,h2⟩:=h;refine⟨h0,fun j hj hm=>?_,fun i hi hm hf=>?_⟩
 ·grind
 ·have:=h2 i hi
  rw[hf] at this;simp only[Bool.or_false] at this;rcases Bool.or_eq_true_iff.1 this with h2|h2
  ·have:i<=m:=by simp_all
   omega
  ·exact h2
def dum:AN:=⟨none,.move (.const undef),0, "", #[],none⟩
def segF(fl:List Nat)(e:Nat):Nat->List AN->List AN
 |_,[]=>[]
 |i,o::l=>bif AJ e i then [] else bif memN fl i then segF fl e (i+1) l else o::segF fl e (i+1) l
def segD(fl:List Nat)(e:Nat):Nat->List AN->List AN
 |_,[]=>[]
 |i,o::l=>bif AJ e i then [] else(bif memN fl i then dum else o)::segD fl e (i+1) l
theorem Qgy(fl:List Nat)(e:Nat): ∀(l:List AN) (i:Nat),(segD fl e i l).length=min (e -i) l.length
 |[],i=>by simp[segD]
 |o::l,i=>by
  unfold segD;cases h:AJ e i with
  |true=>
   simp_all
  |false=>
   have: ¬e<=i:=fun h2=>by have:=Nat.ble_eq_true_of_le h2;grind
   simp only[cond_false,Am,Qgy fl e l (i+1)];omega
theorem QkC(fl:List Nat)(e:Nat): ∀(l:List AN) (i k:Nat) (o:AN),(segD fl e i l)[k]? =some o->(memN fl (i+k)=true/\o=dum)∨(memN fl (i+k)=false/\l[k]? =some o)
 |[],i,k,o,h=>by simp[segD] at h
 |p::l,i,k,o,h=>by
  unfold segD at h;cases hb:AJ e i with
  |true=>grind
  |false=>
   rw[hb] at h;simp only[cond_false] at h;cases k with
   |zero=>
    grind
   |succ k=>
    simp only[AY] at h⊢;have:=QkC fl e l (i+1) k o h
    grind
theorem Qks{P:AD}{opsA:Array AN}{l:List AN}{s:St}{x:AV}{b:Option Blk}{st:Nat->St}{xv:Nat->AV}{nb:Nat->Option Blk}(h:Step1 P opsA o s x b)(hc:Chain P opsA l st xv nb)(h0:st 0=s.next o x b):
 Chain P opsA (o::l) (fun i=>match i with|0=>s|i+1=>st i) (fun i=>match i with|0=>x|i+1=>xv i) (fun i=>match i with|0=>b|i+1=>nb i):=
 ⟨fun i o' ho=>by
   match i,ho with
   |0,ho=>grind
   |i+1,ho=>exact hc.step i o' (by grind)⟩
theorem ADraw.chainF{P:AD}{opsA:Array AN}{K:St->Prop}(fl:List Nat)(e:Nat): ∀(l:List AN) (i:Nat) (s:St),ADraw P opsA K (segF fl e i l) s->
 ∃st xv nb,Chain P opsA (segD fl e i l) st xv nb/\st 0=s/\K (st (segD fl e i l).length)/\ ∀k,memN fl (i+k)=true->nb k=none
 |[],i,s,h=>⟨fun _=>s,fun _=> .d .any,fun _=>none,⟨fun i o ho=>by simp[segD] at ho⟩,rfl,h,fun _ _=>rfl⟩
 |o::l,i,s,h=>by
  unfold segF at h;unfold segD;cases hb:AJ e i with
  |true=>
   rw[hb] at h;exact⟨fun _=>s,fun _=> .d .any,fun _=>none,⟨fun i o ho=>by simp at ho⟩,rfl,h,fun _ _=>rfl⟩
  |false=>
   rw[hb] at h;simp only[cond_false] at h⊢;cases hm:memN fl i with
   |true=>
    rw[hm] at h;simp only[cond_true] at h⊢;obtain⟨st,xv,nb,hc,h0,hK,hn⟩:=ADraw.chainF fl e l (i+1) s h;refine⟨_,_,_,Qks (x:=aval s.env (.const undef)) (b:=none) ⟨rfl,.inr ⟨rfl,Qo1⟩⟩ hc (by rw[h0];simp[St.next,putE,dum]),rfl,hK,fun k hk=>?_⟩
    grind
   |false=>
    rw[hm] at h;simp only[cond_false] at h⊢;obtain⟨x,b,hs,h⟩:=h;obtain⟨st,xv,nb,hc,h0,hK,hn⟩:=ADraw.chainF fl e l (i+1) _ h;refine⟨_,_,_,Qks hs hc h0,rfl,hK,fun k hk=>?_⟩
    grind
section
variable{P:AD}{ops:List AN}{fl:List Nat}{n:Nat}{envF:List (Nat×AV)}{fx:List (Nat×Nat×D)}{B:Bs}
end
section
variable{P:AD}{ops:List AN}{K:List (Nat×AV)->Prop}{f:Nat}{r:List Nat}{env:List (Nat×AV)}{d:BQ}{op:Op}{ty:AA}{pos:String}{after:Array B1}{gd:Option (Nat×Bool)}{x:D}
end
theorem QtT{P:AD}{env:List (Nat×AV)}{H:List Blk}{sz len:Nat}{rows:List (List D)}(hlen:rows.length=len)(hsz: ∀r∈rows,r.length=sz)
 (h: ∀(σ:Sg) (S:Nat->Prop) (H':List Blk) (a:Act) (w:Ag),(∀u∈o.op.operands,Rel σ S H' w (aval env u) (a.eval u))->
   ∃cs,(execOp a.eval o).run P w= .ok (.value (.slice (some ⟨w.heap.size,0,none⟩) len len)) (w.alloc (.cells cs T))/\cs.size=len*sz/\len<=maxLen/\
    ∀(i j:Nat) r d,rows[i]? =some r->r[j]? =some d-> ∃v,cs[i*sz+j]? =some v/\RelD S w d v):Loc P o env H (.d (.sl true sz rows)) none:=by
 intro B σ S H' a w _ hS hop hag hk K Q k;obtain⟨cs,h1,hcs,hm,h2⟩:=h σ S H' a w hop;have hb:BJ w.heap.size w (w.alloc (.cells cs T)):=Pm.bnew w _;obtain⟨h3,h4⟩:=hS.below hb;subst hlen;refine QgE h1 (k _ _ _ _ h3 (.d _ _ (.sl true sz rows w.heap.size 0 rows.length (fun i j=>cs.getD (i*sz+j) undef) ?_ hsz (fun _=>AP _) (fun i j r d hi hj=>?_) fun i j r d hi hj=>?_)) h4)
 ·exact .inr ⟨AP _,by rw[World.size_alloc];omega⟩
 ·obtain⟨v,hv,_⟩:=h2 i j r d hi hj
  simp only[World.cell?,Qeq];rw[Nat.zero_add,AE,hv];simpa using hv
 ·obtain⟨v,hv,hr⟩:=h2 i j r d hi hj
  rw[AE,hv];exact hr.mono h4.s h4.same
def Qd8{P:AD}{dst:Option BQ}{ty:AA}{pos:String}{after:Array B1}{gd:Option (Nat×Bool)}{env:List (Nat×AV)}{H:List Blk}{e:AA}{F:TyF}{n:Nat}{parts:Array (Nat×AC)}{rows:List (List D)}(hT:tyf P T=some F)(he:F.elem=some e)(hE:tyf P e=some E)
 (hz:E.zero.length=E.size:=by rfl) (hc: ∀R:Option (List (List D))->Prop,R (some rows)->R ((fillA (fun i=>some (i*E.size,E.size)) env (AF n (E.zero.map fun v=>AV.d (.v v))).flatten parts.toList).bind (chunk E.size n)):=by
   intro R hR;simp only[go_sem,chunk,Option.bind_some,List.replicate_succ,List.replicate_zero,List.flatten_cons,List.flatten_nil,List.append_nil,List.cons_append,List.nil_append,Nat.zero_mul,Nat.reduceMul,Nat.reduceEqDiff,Nat.reduceAdd,Nat.reduceLT,Nat.reduceLeDiff,↓reduceIte,reduceCtorEq,List.take_nil,List.drop_nil];exact hR)
 (hm:AJ (n*E.size) 16777216=true:=by rfl) (hn:AJ n 16777216=true:=by rfl):Loc P ⟨dst,.buildSlice T n parts,ty,pos,after,gd⟩ env H (.d (.sl true E.size rows)) none:=by
 have h:=hc (fun r=>r=some rows) rfl;obtain⟨res,h1,h2⟩:=AX.1 h;obtain⟨hrl,hrs,hrg⟩:=Qh5 h2;exact QtT hrl hrs (QgK hT he hE hz h1 h2 (A4 hm) (A4 hn))
