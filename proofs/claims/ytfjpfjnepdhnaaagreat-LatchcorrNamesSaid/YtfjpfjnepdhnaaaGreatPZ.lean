/- . -/
import Derived.Test.YtfjpfjnepdhnaaaGreatPV
namespace Go.Proofs.YtfjpfjnepdhnaaaGreat
open Go Go.Proofs.YtfjpfjnepdhnaaaGreat.R
set_option linter.unusedVariables false
set_option linter.unusedSimpArgs false
section
theorem bBi.loop{v:Int}(hv:okV v){L:List (List Int)}{A:List Int}(hn:L.length<=100000)(hr:∀c∈L,c.length<=140737488351232/\∀x∈c,in64 x)(hA:A.length<=140737488351232)(hA64:∀x∈A,in64 x):
  ∀(n i:Nat),i+n=L.length->bBi.l0 v A L (L.length:Int) (i:Int)=some (if okL v (L.drop i)/\okA v A [] then 0 else 8)
 |0,i,hi=>by
  rw[bBi.l0_eq,cd,if_neg (by omega),List.drop_of_length_le (by omega),bCd hA (by simp) hA64,Option.bind_some,cn]
  have hnil:okL v []:=fun c hc=>by cases hc
  by_cases h:okA v A []
  .rw[if_pos h,if_pos rfl,if_pos ⟨hnil,h⟩]
  .rw[if_neg h,if_neg (by omega),if_neg (fun g=>h g.2)]
 |n+1,i,hi=>by
  have hlt:i<L.length:=by omega
  have hw:IntKind.wrap .i64 ((i:Int)+1)=((i+1:Nat):Int):=by rw[wr]<;>omega
  obtain⟨h1,h2⟩:=hr _ (List.getElem_mem hlt)
  rw[bBi.l0_eq,cd,if_pos (by omega),bB0 hlt,Option.bind_some,bC8 h1 h2,Option.bind_some,if_pos hv,cn,hw,bBi.loop hv hn hr hA hA64 n (i+1) (by omega),drop_cons hlt]
  by_cases hc:okC v L[i]
  .rw[if_pos hc,if_pos rfl]
   by_cases h3:okL v (L.drop (i+1))/\okA v A []
   .rw[if_pos h3,if_pos]
    refine⟨fun d hd=>?_,h3.2⟩
    rcases List.mem_cons.1 hd with h|h
    .rw[h];exact hc
    .exact h3.1 d h
   .rw[if_neg h3,if_neg (fun h=>h3 ⟨fun d hd=>h.1 d (List.mem_cons_of_mem _ hd),h.2⟩)]
  .rw[if_neg hc,if_neg (by omega),if_neg (fun h=>hc (h.1 _ (List.mem_cons_self ..)))]
theorem bJb{v b:Int}{L:List (List Int)}{A:List Int}(hn:L.length<=100000)(hr:∀c∈L,c.length<=140737488351232/\∀x∈c,in64 x)(hA:A.length<=140737488351232)(hA64:∀x∈A,in64 x):
  bBi v L A b=some (if v<0\/v>4000\/b<0\/b>100000 then 2 else if L.length>20000 then 4 else if okL v L/\okA v A [] then 0 else 8):=by
 rw[bBi.eq,cd]
 by_cases h1:v<0
 .rw[if_pos h1,if_pos (.inl h1)]
 rw[if_neg h1,cd]
 by_cases h2:v>4000
 .rw[if_pos h2,if_pos (.inr (.inl h2))]
 rw[if_neg h2,cd]
 by_cases h3:b<0
 .rw[if_pos h3,if_pos (.inr (.inr (.inl h3)))]
 rw[if_neg h3,cd]
 by_cases h4:b>100000
 .rw[if_pos h4,if_pos (.inr (.inr (.inr h4)))]
 rw[if_neg h4,cd,if_neg (by omega:¬(v<0\/v>4000\/b<0\/b>100000))]
 by_cases h5:L.length>20000
 .rw[if_pos (by omega),if_pos h5]
 .have:=bBi.loop (v:=v) (by omega) hn hr hA hA64 L.length 0 (by omega)
  rw[show((0:Nat):Int)=0 from rfl,List.drop_zero]at this
  rw[if_neg (by omega),if_neg h5,this]
section
variable {v:Int} {A H:List Int} {L log:List (List Int)} {t s:List Int} {k:Int}
abbrev SolT:=Int×List Int×List Int×List (List Int)×(Int×List Int×List Int)×Bool×List Bool×List Int×List (List Int)×Int
abbrev solT(v:Int)(A H:List Int)(L:List (List Int))(t s:List Int)(bo:Bool)(m:List Bool)(co:List Int)(log:List (List Int))(k:Int):SolT:=(v,(A,(H,(L,((v,(t,s)),(bo,(m,(co,(log,k)))))))))
theorem bD2{bo:Bool}{m:List Bool}{co c:List Int}(h1:L.length<20000)(h2:log.length<=20000):bA7 v A H L v t s bo m co log k c=some (0,solT v A H (L++[c]) t s bo m co (log++[c]) k):=by
 rw[bA7.eq,ce,if_neg (by omega),bB1 (by simp;omega),Option.bind_some,bB1 (by simp;omega),Option.bind_some]
theorem bJz.loop(h:okA v t s){b:Bool}{m:List Bool}{co o1:List Int}:∀(n i:Nat),i+n=s.length ->
  bAt.l0 (s.length:Int) (i:Int) v A v b k log co m s t L H ((List.range i).map (dc t s)) o1=bAt.l0 (s.length:Int) (s.length:Int) v A v b k log co m s t L H (decs t s) o1
 |0,i,hi=>by
  have:i=s.length:=by omega
  subst this;rfl
 |n+1,i,hi=>by
  have hlt:i<s.length:=by omega
  have hv:=h.vars
  have hsh:=h.short
  have hw:IntKind.wrap .i64 ((i:Int)+1)=((i+1:Nat):Int):=by rw[wr]<;>omega
  obtain⟨j,hj,h1,e1⟩:=bZ8 h hlt
  rw[<-bJz.loop h n (i+1) (by omega),bAt.l0_eq (x17:=(i:Int)),cd,if_pos (by omega),bB0 hlt,Option.bind_some,Int.toNat_natCast,List.getElem?_eq_getElem hlt,Option.bind_some,h1,bB0 hj,Option.bind_some,Int.toNat_natCast,
   List.getElem?_eq_getElem hj,Option.bind_some,bB1 (by simp;omega),Option.bind_some,hw,List.range_succ,List.map_append,List.map_singleton,e1]
theorem bFs(h:okA v t s)(hL:okL v L)(hn:L.length<20000)(hlog:log.length<=20000)(hk:0<=k/\k<=1000000)(hc:bDq v L (decs t s)=true){c:List Int}(hce:c=lrnC v L (decs t s))(hcok:okC v c)
  {t' s':List Int} (hb:c≠[]->bFn v t s c=((v,(t',s')),0)) :
  bAt v A H L v t s false [] [] log k=if c=[] then some (false,0,solT v A H (L++[[]]) t s false [] [] (log++[[]]) k) else some (true,0,solT v A H (L++[c]) t' s' false [] [] (log++[c]) (k+1)):=by
 have hv:=h.vars
 have hsh:=h.short
 have ht64:∀l∈t,in64 l:=fun l hl=>by have:=h.lits l hl;omega
 have g:=bJz.loop (A:=A) (H:=H) (L:=L) (log:=log) (k:=k) (b:=false) (m:=[]) (co:=[]) (o1:=[]) h s.length 0 (by omega)
 rw[show((0:Nat):Int)=0 from rfl]at g
 have e0:bAt v A H L v t s false [] [] log k=_:=(bAt.eq ..).trans g
 have hD:=bGj h
 have hdl:(decs t s).length=s.length:=by simp[decs]
 rw[e0,bAt.l0_eq,cd,if_neg (by omega),cd]
 by_cases hs:s.length=0
 .have hd0:decs t s=[]:=List.eq_nil_of_length_eq_zero (by omega)
  have hc0:c=[]:=by rw[hce,hd0];exact bW8
  rw[if_neg (by omega),ce,if_pos (by simp),bD2 hn hlog,Option.bind_some,if_pos hc0]
 .rw[if_pos (by omega),bC7 hD hL (by omega) hc,Option.bind_some,<-hce]
  dsimp only
  rw[cn,if_pos rfl,ce]
  by_cases hc0:c=[]
  .rw[if_pos (by rw[hc0];rfl),if_pos hc0,bD2 hn hlog,Option.bind_some]
  .have hcl:¬(c.length:Int)=0:=fun e=>hc0 (List.eq_nil_of_length_eq_zero (by omega))
   have hc64:∀l∈c,in64 l:=fun l hl=>by have:=hcok.1 l hl;omega
   have hcs:=hcok.short hv
   have hw:IntKind.wrap .i64 (k+1)=k+1:=by rw[wr]<;>omega
   rw[if_neg hcl,if_neg hc0,bHy (by omega) (by omega) ht64 (by omega) hc64,Option.bind_some,hb hc0]
   dsimp only
   rw[cn,if_pos rfl,hw,bD2 hn hlog,Option.bind_some]
def bW1(v:Int)(A H:List Int)(L:List (List Int))(t s:List Int)(bo:Bool)(m:List Bool)(co:List Int)(log:List (List Int))(k:Int):Int×SolT:=
 match bGx A t with
 |some l=>if isS t l=0 then(2,solT v A H L t s bo m co log k) else(0,solT v A H L (t++[l]) (s++[(t.length:Int)]) bo m co log k)
 |none=>if lf v t=0 then(1,solT v A H L t s bo m co log k) else(0,solT v A H L (t++[2*lf v t+1]) (s++[(t.length:Int)]) bo m co log k)
theorem bS6{l:Int}{r:List Int}:bGx (l::r) t=if isS t l=1 then bGx r t else some l:=by
 unfold bGx
 rw[List.find?_cons]
 by_cases h:isS t l=1
 .rw[if_pos h];simp[h]
 .rw[if_neg h];simp[h]
theorem bL1.loop(h:okA v t s)(hA:∀a∈A,isLit v a)(hn:A.length<=100000){bo:Bool}{m:List Bool}{co:List Int}:∀(n i:Nat),i+n=A.length ->
  bAu.l0 0 A (A.length:Int) (i:Int) v A v bo k log co m s t L (allL v.toNat)=some (match bGx (A.drop i) t with
   |some l=>if isS t l=0 then(2,solT v A (allL v.toNat) L t s bo m co log k) else(0,solT v A (allL v.toNat) L (t++[l]) (s++[(t.length:Int)]) bo m co log k)
   |none=>if lf v t=0 then(1,solT v A (allL v.toNat) L t s bo m co log k) else(0,solT v A (allL v.toNat) L (t++[2*lf v t+1]) (s++[(t.length:Int)]) bo m co log k))
 |0,i,hi=>by
  have hv:=h.vars
  have hsh:=h.short
  have ht64:∀l∈t,in64 l:=fun l hl=>by have:=h.lits l hl;omega
  have hw0:bGx (A.drop i) t=none:=by rw[List.drop_of_length_le (by omega)];rfl
  rw[bAu.l0_eq,cd,if_neg (by omega),ce,if_pos rfl,bHz (by omega) (by omega) ht64,Option.bind_some,hw0]
  dsimp only
  rcases bW0 h with⟨h1,a,b,h2⟩|⟨h1,r,h2⟩
  .rw[h2,if_pos h1]
   dsimp only
   rw[cn,if_neg (by omega)]
  .rw[h2,if_neg h1]
   have hb:=(bGy (v:=v) (by omega) t).resolve_left fun h=>h1 h.1
   have hw:IntKind.wrap .i64 (IntKind.wrap .i64 (2*lf v t)+1)=2*lf v t+1:=by rw[wr (x:=2*lf v t) (by omega) (by omega),wr (by omega) (by omega)]
   dsimp only
   rw[cn,if_pos rfl,bB1 (by simp;omega),Option.bind_some,hw,bB1 (by simp;omega),Option.bind_some]
 |n+1,i,hi=>by
  have hlt:i<A.length:=by omega
  have hv:=h.vars
  have hsh:=h.short
  have hl:=hA _ (List.getElem_mem hlt)
  have ht64:∀l∈t,in64 l:=fun l hl=>by have:=h.lits l hl;omega
  have hw:IntKind.wrap .i64 ((i:Int)+1)=((i+1:Nat):Int):=by rw[wr]<;>omega
  have hval:valC v t s A[i]=(isS t A[i],0):=by unfold valC;rw[if_pos h,if_pos hl]
  rw[bAu.l0_eq,cd,if_pos (by omega),bB0 hlt,Option.bind_some,bL2 (by omega) (by omega) ht64 (by omega),Option.bind_some,hval]
  dsimp only
  rw[ce,ce,ce,drop_cons hlt,bS6]
  rcases bCk t A[i]with h0|h0|h0
  .rw[if_pos h0,if_neg (by omega)]
   dsimp only
   rw[if_pos h0]
  .rw[if_neg (by omega),if_neg (by omega),if_pos h0,hw,bL1.loop h hA hn n (i+1) (by omega)]
  .rw[if_neg (by omega),if_pos h0,if_neg (by omega),if_neg (by omega),bB1 (by simp;omega),Option.bind_some,bB1 (by simp;omega),Option.bind_some]
   dsimp only
   rw[if_neg (by omega)]
theorem bD3(h:okA v t s)(hA:∀a∈A,isLit v a)(hn:A.length<=100000){bo:Bool}{m:List Bool}{co:List Int}:
  bAu v A (allL v.toNat) L v t s bo m co log k=some (bW1 v A (allL v.toNat) L t s bo m co log k):=by
 have:=bL1.loop (L:=L) (log:=log) (k:=k) (bo:=bo) (m:=m) (co:=co) h hA hn A.length 0 (by omega)
 rw[List.drop_zero]at this
 rw[bAu.eq]
 exact this
theorem bKi(h:okA v t s)(hA:∀a∈A,isLit v a)(hn:A.length<=100000){bo:Bool}{m:List Bool}{co:List Int}{l:Int}(hw:bGx A t=some l)(h0:isS t l=0):
  bAu v A (allL v.toNat) L v t s bo m co log k=some (2,solT v A (allL v.toNat) L t s bo m co log k):=by
 rw[bD3 h hA hn];unfold bW1;rw[hw];dsimp only;rw[if_pos h0]
theorem bKk(h:okA v t s)(hA:∀a∈A,isLit v a)(hn:A.length<=100000){bo:Bool}{m:List Bool}{co:List Int}{l:Int}(hw:bGx A t=some l)(h0:¬isS t l=0):
  bAu v A (allL v.toNat) L v t s bo m co log k=some (0,solT v A (allL v.toNat) L (t++[l]) (s++[(t.length:Int)]) bo m co log k):=by
 rw[bD3 h hA hn];unfold bW1;rw[hw];dsimp only;rw[if_neg h0]
theorem bKj(h:okA v t s)(hA:∀a∈A,isLit v a)(hn:A.length<=100000){bo:Bool}{m:List Bool}{co:List Int}(hw:bGx A t=none)(h0:lf v t=0):
  bAu v A (allL v.toNat) L v t s bo m co log k=some (1,solT v A (allL v.toNat) L t s bo m co log k):=by
 rw[bD3 h hA hn];unfold bW1;rw[hw];dsimp only;rw[if_pos h0]
theorem bKh(h:okA v t s)(hA:∀a∈A,isLit v a)(hn:A.length<=100000){bo:Bool}{m:List Bool}{co:List Int}(hw:bGx A t=none)(h0:¬lf v t=0):
  bAu v A (allL v.toNat) L v t s bo m co log k=some (0,solT v A (allL v.toNat) L (t++[2*lf v t+1]) (s++[(t.length:Int)]) bo m co log k):=by
 rw[bD3 h hA hn];unfold bW1;rw[hw];dsimp only;rw[if_neg h0]
theorem bJ0(hA:okA v A [])(hL:okL v L)(hn:L.length<20000)(hlog:log.length<=20000)(hc:bDq v L A=true){m:List Bool}{co:List Int}{bo:Bool}:
  bA0 v A H L v t s bo m co log k 2=some (0,solT v A H (L++[lrnC v L A]) t s bo m co (log++[lrnC v L A]) k):=by
 rw[bA0.eq,ce,if_pos rfl,bC7 hA hL (by omega) hc,Option.bind_some]
 dsimp only
 rw[cn,if_pos rfl,bD2 hn hlog,Option.bind_some]
theorem bKe.loop{T:List Int}(h:okA v T s){bo:Bool}{co:List Int}:∀(n i:Nat),i+n=T.length ->
  bA0.l0 (T.length:Int) (i:Int) v A v bo k log co [] s T L H (mdl v (T.take i))=some (0,solT v A H L T s bo (mdl v T) co log k)
 |0,i,hi=>by
  rw[bA0.l0_eq,cd,if_neg (by omega),List.take_of_length_le (by omega)]
 |n+1,i,hi=>by
  have hlt:i<T.length:=by omega
  have hv:=h.vars
  have hsh:=h.short
  have hl:=h.lits _ (List.getElem_mem hlt)
  have hw:IntKind.wrap .i64 ((i:Int)+1)=((i+1:Nat):Int):=by rw[wr]<;>omega
  have hw2:IntKind.wrap .i64 (IntKind.wrap .i64 (Int.tdiv T[i] 2)-1)=T[i]/2-1:=by rw[td (by omega) (by omega),wr (by omega) (by omega)]
  have hlen:(mdl v (T.take i)).length=v.toNat:=bHb
  have hidx:(T[i]/2-1).toNat<(mdl v (T.take i)).length:=by omega
  have e1:(T[i]%2==0)=decide (T[i]%2=0):=by rw[Bool.eq_iff_iff];simp
  rw[bA0.l0_eq,cd,if_pos (by omega),bB0 hlt,Option.bind_some,Int.toNat_natCast,List.getElem?_eq_getElem hlt,Option.bind_some,hw2,gi' (by omega),List.getElem?_eq_getElem hidx,Option.bind_some,Option.bind_some,hw,tm (by omega),e1,<-bSj h hlt,
   bKe.loop h n (i+1) (by omega)]
theorem bJ1{T:List Int}(h:okA v T s):bA0 v A H L v T s false [] [] log k 1=some (0,solT v A H L T s true (mdl v T) [] log k):=by
 have hv:=h.vars
 have g:=bKe.loop (A:=A) (H:=H) (L:=L) (log:=log) (k:=k) (bo:=true) (co:=[]) h T.length 0 (by omega)
 have h0:mdl v (T.take 0)=List.replicate v.toNat false:=by
  refine List.ext_getElem (by simp[bHb]) fun j h1 h2=>?_
  simp[mdl]
 rw[h0,show((0:Nat):Int)=0 from rfl]at g
 rw[bA0.eq,ce,if_neg (by omega),bKo (by omega) (by omega),Option.bind_some,if_pos rfl,g]
end
theorem bAc.loop1{v b:Int}{A:List Int}(hA:okA v A []){L0:List (List Int)}{b0:Bool}{b1:Int}{o2:List Bool}{o3:List Int}{o4:List (List Int)}(hlim:L0.length+2^v.toNat<=20000):∀(n:Nat) {t s:List Int} {log:List (List Int)},InvA v A L0 t s log->meas v t s<n->(log.length:Int)<=b ->
  bAc.l1 b b0 b1 v A v false (log.length:Int) o2 o3 o4 (allL v.toNat) (L0++log) t s [] [] log=some (ansC v b (solA v A n (L0++log) t s log))
 |0,t,s,log,h,hn,hb=>by omega
 |n+1,t,s,log,h,hn,hb=>by
  have hv:=h.a.vars
  have hsh:=h.a.short
  have hAs:=hA.short
  have hP:=h.prop.1
  have htop:log.length+1<=2^v.toNat:=by have:=h.mes;have:=bHa h.a;omega
  have hll:(L0++log).length<20000:=by rw[List.length_append];omega
  have hlog:log.length<=20000:=by rw[List.length_append]at hll;omega
  have ht64:∀l∈t,in64 l:=fun l hl=>by have:=h.a.lits l hl;omega
  have hr:∀c∈L0++log,c.length<=140737488351232/\∀x∈c,in64 x:=fun c hc=>⟨by have:=(h.ok c hc).len hv;omega,fun x hx=>bKw hv ((h.ok c hc).1 x hx)⟩
  have hrun:runC v t s (L0++log)=((v,(bAf (L0++log) (v+1).toNat t).1,s),(bAf (L0++log) (v+1).toNat t).2,0):=by
   unfold runC
   rw[if_pos h.a,if_neg (by omega),if_pos h.ok]
  rw[bAc.l1_eq,bGa (by omega) (by omega) ht64 (by omega) hr,Option.bind_some,hrun]
  dsimp only
  rw[cn,if_pos rfl,cd]
  unfold solA
  by_cases hat:0<=(bAf (L0++log) (v+1).toNat t).2
  .rw[if_pos hat,if_pos hat]
   obtain⟨f1,f2,f3⟩:=h.fail hat rfl
   have hcf:=h.conf hat
   by_cases hc:lrnC v (L0++log) (decs (bAf (L0++log) (v+1).toNat t).1 s)=[]
   .rw[bFs (t':=[]) (s':=[]) hP.a h.ok hll hlog ⟨by omega,by omega⟩ hcf rfl f1 (fun hne=>absurd hc hne),if_pos hc,if_pos hc,Option.bind_some]
    dsimp only
    rw[ce,if_pos rfl,cd,if_neg (by omega),cn,if_pos rfl,cnot,cf]
    unfold ansC ansR
    rw[if_pos hb]
    rfl
   .obtain⟨t',s',e1,e2,e3⟩:=f3 hc
    rw[bFs hP.a h.ok hll hlog ⟨by omega,by omega⟩ hcf rfl f1 (fun _=>e1),if_neg hc,if_neg hc,Option.bind_some,e1]
    dsimp only
    rw[ce,if_pos rfl,cd]
    by_cases hov:(log.length:Int)+1>b
    .rw[if_pos hov,cn,if_neg (by omega)]
     unfold ansC
     have:=bHs (v:=v) (A:=A) n (L0++log++[lrnC v (L0++log) (decs (bAf (L0++log) (v+1).toNat t).1 s)]) t' s' (log++[lrnC v (L0++log) (decs (bAf (L0++log) (v+1).toNat t).1 s)])
     rw[List.length_append (bs:=[_]),List.length_singleton]at this
     rw[if_neg (by omega)]
     rfl
    .rw[if_neg hov,cn,if_pos rfl,cnot,ct]
     have:=bAc.loop1 (b:=b) (b0:=b0) (b1:=b1) (o2:=o2) (o3:=o3) (o4:=o4) hA hlim n e2 (by omega) (by rw[List.length_append,List.length_singleton];omega)
     rw[<-List.append_assoc,List.length_append (bs:=[_]),List.length_singleton,Int.natCast_add]at this
     exact this
  .rw[if_neg hat,if_neg hat]
   cases hw:bGx A (bAf (L0++log) (v+1).toNat t).1 with
   |some l=>
    obtain⟨w1,w2⟩:=bKq hw
    dsimp only
    by_cases h0:isS (bAf (L0++log) (v+1).toNat t).1 l=0
    .rw[if_pos h0,bKi hP.a hA.lits (by omega) hw h0,Option.bind_some]
     have hcf:=h.under hA rfl w1 h0
     dsimp only
     rw[cd,if_pos (by omega),bJ0 hA h.ok hll hlog hcf,Option.bind_some]
     dsimp only
     rw[cn,if_pos rfl]
     unfold ansC ansR
     rw[if_pos hb]
     rfl
    .rw[if_neg h0,bKk hP.a hA.lits (by omega) hw h0,Option.bind_some]
     have h2:isS (bAf (L0++log) (v+1).toNat t).1 l=2:=by rcases bCk (bAf (L0++log) (v+1).toNat t).1 l with h|h|h<;>omega
     obtain⟨e1,e2⟩:=h.choose rfl (hA.lits l w1) h2 (.inl w1)
     dsimp only
     rw[cd,if_neg (by omega)]
     exact bAc.loop1 hA hlim n e1 (by omega) hb
   |none=>
    have hall:=bKr hP.a hw
    dsimp only
    by_cases hl:lf v (bAf (L0++log) (v+1).toNat t).1=0
    .rw[if_pos hl,bKj hP.a hA.lits (by omega) hw hl,Option.bind_some]
     dsimp only
     rw[cd,if_pos (by omega),bJ1 hP.a,Option.bind_some]
     dsimp only
     rw[cn,if_pos rfl]
     unfold ansC ansR
     rw[if_pos hb]
     rfl
    .rw[if_neg hl,bKh hP.a hA.lits (by omega) hw hl,Option.bind_some]
     obtain⟨x1,x2,x3,x4⟩:=(bGy (v:=v) (by omega) (bAf (L0++log) (v+1).toNat t).1).resolve_left fun h=>hl h.1
     have hnone:isS (bAf (L0++log) (v+1).toNat t).1 (2*lf v (bAf (L0++log) (v+1).toNat t).1+1)=2:=by
      rw[bDm]at x3 ⊢
      intro a ha he
      exact x3 a ha (by omega)
     obtain⟨e1,e2⟩:=h.choose rfl (x:=2*lf v (bAf (L0++log) (v+1).toNat t).1+1) (by omega) hnone (.inr ⟨_,rfl,x1,x2,x4,hall⟩)
     dsimp only
     rw[cd,if_neg (by omega)]
     exact bAc.loop1 hA hlim n e1 (by omega) hb
theorem bAc.loop0{v b:Int}(hv:okV v){b0 b1_3:Bool}{b0_1 b1 b1_2 b1_4:Int}{b1_1:List Int}{o2 o9:List Bool}{o3 o7 o8 o10:List Int}{o4 o6 o11:List (List Int)}:∀(n k:Nat),(k:Int)+n=v ->
  bAc.l0 v b ((k+1:Nat):Int) b0 b0_1 b1 b1_1 b1_2 b1_3 b1_4 o2 o3 o4 (allL k) o6 o7 o8 o9 o10 o11=bAc.l1 b b0 b0_1 b1 b1_1 b1_2 b1_3 b1_4 o2 o3 o4 (allL v.toNat) o6 o7 o8 o9 o10 o11
 |0,k,hk=>by
  have e:v.toNat=k:=by omega
  rw[bAc.l0_eq,cd,if_neg (by omega),e]
 |n+1,k,hk=>by
  have hl:((allL k).length:Int)=k:=by rw[bHn]
  rw[bAc.l0_eq,cd,if_pos (by omega),bB1 (by simp;omega),Option.bind_some,bWb (by omega),<-bAc.loop0 hv n (k+1) (by omega),bQr]
  rfl
theorem bKp{v b:Int}{A:List Int}(hA:okA v A [])(hb:0<=b/\b<=100000){L:List (List Int)}(hL:okL v L)(hlim:L.length+2^v.toNat<=20000):bAc v L A b=some (ansC v b (bHg v A L)):=by
 have hv:=hA.vars
 have hN:L.length<=20000:=Nat.le_trans (Nat.le_add_right _ _) hlim
 have g0:=bAc.loop0 (b:=b) (b0:=false) (b0_1:=0) (b1:=v) (b1_1:=A) (b1_2:=v) (b1_3:=false) (b1_4:=0) (o2:=[]) (o3:=[]) (o4:=[]) (o6:=L) (o7:=[]) (o8:=[]) (o9:=[]) (o10:=[]) (o11:=[]) hv v.toNat 0 (by omega)
 have g1:=bAc.loop1 (b:=b) hA (b0:=false) (b1:=0) (o2:=[]) (o3:=[]) (o4:=[]) hlim (meas v [] []+1) (cD7 hv hL) (Nat.lt_succ_self _) (by simpa using hb.1)
 rw[List.append_nil]at g1
 rw[bAc.eq,bD4 (by omega),Option.bind_some]
 exact g0.trans g1
theorem bBf.loop{v:Int}{L:List (List Int)}{A:List Int}(hn:A.length<=100000):∀(n i:Nat),i+n=A.length ->
  bBf.l0 v L A (A.length:Int) (i:Int) (bD5 (A.take i))=bBf.l0 v L A (A.length:Int) (A.length:Int) (bD5 A)
 |0,i,hi=>by
  have:i=A.length:=by omega
  subst this;rw[List.take_length]
 |n+1,i,hi=>by
  have hlt:i<A.length:=by omega
  have hw:IntKind.wrap .i64 ((i:Int)+1)=((i+1:Nat):Int):=by rw[wr]<;>omega
  have hl:(bD5 (A.take i)).length<=100000:=by unfold bD5;rw[List.length_map,List.length_take];omega
  rw[<-bBf.loop hn n (i+1) (by omega),bBf.l0_eq,cd,if_pos (by omega),bB0 hlt,Option.bind_some,bB1 (by simp only[List.length_singleton];omega),Option.bind_some,hw,List.take_add_one,List.getElem?_eq_getElem hlt]
  unfold bD5
  rw[List.map_append]
  rfl
theorem bM2{v:Int}(hv:okV v){L:List (List Int)}{A:List Int}(hL:okL v L)(hA:∀a∈A,isLit v a)(hlim:A.length+L.length+2^v.toNat<=20000)(hbig:2^v.toNat<=100001):bBf v L A=some (cC2 v L A,0):=by
 have hAL:A.length+L.length<=20000:=Nat.le_trans (Nat.le_add_right _ _) hlim
 have hL2:L.length+2^v.toNat<=20000:=Nat.le_trans (by rw[Nat.add_assoc];exact Nat.le_add_left _ _) hlim
 have h2v:2^v.toNat<=20000:=Nat.le_trans (Nat.le_add_left _ _) hlim
 have g:=bBf.loop (v:=v) (L:=L) (A:=A) (by omega) A.length 0 (by omega)
 rw[show((0:Nat):Int)=0 from rfl,List.take_zero]at g
 have hul:(bD5 A).length=A.length:=by simp[bD5]
 have hok:=bY1 hL hA
 have hb:=(cCo hv hok).bnd
 rw[bBf.eq]
 refine Eq.trans g ?_
 rw[bBf.l0_eq,cd,if_neg (by omega),bB1 (by omega),Option.bind_some,bP5 hv (by omega) hok (by rw[List.length_append,hul];exact hlim),Option.bind_some]
 unfold ansC
 rw[if_pos (by omega)]
 dsimp only
 rw[ce,if_pos rfl]
 rfl
theorem bBb.loop{v:Int}(hv:okV v){L:List (List Int)}{A:List Int}(hA:okA v A [])(hL:okL v L)(hlim:A.length+L.length+2^v.toNat<=20000)(hbig:2^v.toNat<=100001):∀(n i:Nat) {o:List Int},i+n=A.length->o.Sublist A->(∀x∈A.drop i,x∈o) ->
  bBb.l0 v L A (A.length:Int) (i:Int) o=some (coreC v L (A.drop i) o,0)
 |0,i,o,hi,ho,hm=>by
  rw[bBb.l0_eq,cd,if_neg (by omega),List.drop_of_length_le (by omega)]
  rfl
 |n+1,i,o,hi,ho,hm=>by
  have hAL:A.length+L.length<=20000:=Nat.le_trans (Nat.le_add_right _ _) hlim
  have hlt:i<A.length:=by omega
  have hs:=hA.short
  have hol:=ho.length_le
  have hw:IntKind.wrap .i64 ((i:Int)+1)=((i+1:Nat):Int):=by rw[wr]<;>omega
  rw[drop_cons hlt]at hm ⊢
  have hd:A[i]∈o:=hm _ (List.mem_cons_self ..)
  obtain⟨k,e1,e2,e3⟩:=bDe.found (s:=o) (x:=A[i]) (by omega) o.length 0 (by omega) (by rw[List.drop_zero];exact hd)
  rw[show((0:Nat):Int)=0 from rfl]at e1
  rw[List.take_zero,List.drop_zero,List.nil_append]at e3
  have hwk:IntKind.wrap .i64 ((k:Int)+1)=((k+1:Nat):Int):=by rw[wr]<;>omega
  have hcut:cutl o (k:Int) ((k+1:Nat):Int)=some (rm A[i] o):=by
   unfold cutl LIM
   rw[if_pos ⟨by omega,by omega,by omega,by omega⟩,Int.toNat_natCast,Int.toNat_natCast,e3]
  have hsub:(rm A[i] o).Sublist A:=(bQw _ o).trans ho
  have hsl:=hsub.length_le
  have hnd:=hA.nodup
  rw[<-List.take_append_drop i A,List.nodup_append,drop_cons hlt,List.nodup_cons]at hnd
  rw[bBb.l0_eq,cd,if_pos (by omega),bB0 hlt,Option.bind_some,bAg.eq,e1,Option.bind_some,bD4 (by omega),Option.bind_some,hwk,hcut,Option.bind_some,bM2 hv hL (fun a ha=>hA.lits a (hsub.subset ha)) (Nat.le_trans (Nat.add_le_add_right (Nat.add_le_add_right hsl _) _) hlim) hbig,Option.bind_some,hw]
  dsimp only
  rw[cn,if_pos rfl]
  unfold coreC
  cases hcf:cC2 v L (rm A[i] o) with
  |true=>
   rw[ct]
   exact bBb.loop hv hA hL hlim hbig n (i+1) (by omega) hsub (fun x hx=>bTc (hm x (List.mem_cons_of_mem _ hx)) (fun e=>hnd.2.1.1 (e▸hx)))
  |false=>
   rw[cf]
   exact bBb.loop hv hA hL hlim hbig n (i+1) (by omega) ho (fun x hx=>hm x (List.mem_cons_of_mem _ hx))
theorem bM3{v:Int}{L:List (List Int)}{A:List Int}(hA:okA v A [])(hL:okL v L)(hlim:A.length+L.length+2^v.toNat<=20000)(hbig:2^v.toNat<=100001):bBb v L A=some (coreC v L A A,0):=by
 have hAL:A.length+L.length<=20000:=Nat.le_trans (Nat.le_add_right _ _) hlim
 have hL2:L.length+2^v.toNat<=20000:=Nat.le_trans (by rw[Nat.add_assoc];exact Nat.le_add_left _ _) hlim
 have h2v:2^v.toNat<=20000:=Nat.le_trans (Nat.le_add_left _ _) hlim
 have g:=bBb.loop hA.vars hA hL hlim hbig A.length 0 (o:=A) (by omega) (List.Sublist.refl _) (fun x hx=>by rwa [List.drop_zero]at hx)
 rw[show((0:Nat):Int)=0 from rfl,List.drop_zero]at g
 rw[bBb.eq,bD4 (by omega),Option.bind_some,g]
section
variable {v b:Int} {A:List Int} {L:List (List Int)}
theorem bWq(hv:okV v)(hL:okL v L):∀c∈L,c.length<=140737488351232/\∀x∈c,in64 x:=fun c hc=>⟨by have:=(hL c hc).len hv;omega,fun x hx=>bKw hv ((hL c hc).1 x hx)⟩
theorem bJa(hA:okA v A [])(hb:0<=b/\b<=100000)(hL:okL v L)(hn:L.length<=20000):bBi v L A b=some 0:=by
 have hv:=hA.vars
 have hs:=hA.short
 rw[bJb (by omega) (bWq hv hL) (by omega) (fun x hx=>bKw hv (hA.lits x hx)),if_neg (by omega),if_neg (by omega),if_pos ⟨hL,hA⟩]
theorem bPm(hA:okA v A [])(hb:0<=b/\b<=100000)(hL:okL v L)(hlim:A.length+L.length+2^v.toNat<=20000):bCi v L A b=some (runA v b A L):=by
 have hAL:A.length+L.length<=20000:=Nat.le_trans (Nat.le_add_right _ _) hlim
 have hL2:L.length+2^v.toNat<=20000:=Nat.le_trans (by rw[Nat.add_assoc];exact Nat.le_add_left _ _) hlim
 have h2v:2^v.toNat<=20000:=Nat.le_trans (Nat.le_add_left _ _) hlim
 have hR:=bT3 hA hL
 rw[bCi.eq,bJa hA hb hL (by omega),Option.bind_some,cn,if_pos rfl,bKp hA hb hL hL2,Option.bind_some]
 unfold ansC runA
 by_cases hc:((bHg v A L).2.2.2:Int)<=b
 .rw[if_pos hc,if_pos hc]
  dsimp only
  rw[cn,if_pos rfl]
  unfold ansR ansA
  cases hs:(bHg v A L).1 with
  |true=>rfl
  |false=>
   rw[cf,bM3 hA hL hlim (by omega),Option.bind_some]
   rfl
 .rw[if_neg hc,if_neg hc]
  dsimp only
  rw[cn,if_neg (by omega)]
theorem bPw(hA:okA v A [])(h12:v<=12)(hL:okL v L)(hn:A.length+L.length<=10000)(hb:((bHg v A L).2.2.2:Int)<=b/\b<=100000):bCi v L A b=some (ansA v A L,0):=by
 have hp:=bWd hA.vars.1 h12
 rw[bPm hA ⟨by omega,hb.2⟩ hL (by omega)]
 unfold runA
 rw[if_pos hb.1]
end
end
section
structure bDd(I:Int)(Ls As:List (Int×Int))(Bs Cs:List Int):Prop where
 i:in64 I
 ls:Ls.length<=140737488351232/\∀x∈Ls,in64 x.1/\in64 x.2
 as_:As.length<=140737488351232/\∀x∈As,in64 x.1/\in64 x.2
 bs:Bs.length<=140737488351232/\∀x∈Bs,in64 x
 cs:Cs.length<=140737488351232/\∀x∈Cs,in64 x
abbrev litN(n l:Int):Prop:=0<=l/\l/2<=n
abbrev latN(n:Int)(x:Int×Int):Prop:=litN n x.1/\0<=x.2/\x.2<=2
def okG:Int->List (Int×Int)->Bool
 |_,[]=>true
 |n,x::r=>decide (0<=x.2)&&decide (x.2<=x.1)&&decide (x.1/2<n)&&okG (n+1) r
def few(I:Int)(Ls As:List (Int×Int))(Bs Cs:List Int):Prop:=I<=1000/\I+Ls.length+As.length<=1000/\Bs.length<=100/\Cs.length<=100
instance (I:Int)(Ls As:List (Int×Int))(Bs Cs:List Int):Decidable (few I Ls As Bs Cs):=by unfold few;infer_instance
def size(I:Int)(Ls As:List (Int×Int)):Int:=I+Ls.length+As.length
def bZy(I:Int)(Ls As:List (Int×Int))(Bs Cs:List Int):Prop:=
 (∀l∈Bs,litN (size I Ls As) l)/\(∀l∈Cs,litN (size I Ls As) l)/\(∀x∈Ls,latN (size I Ls As) x)/\okG (1+I+Ls.length) As=true
instance (I:Int)(Ls As:List (Int×Int))(Bs Cs:List Int):Decidable (bZy I Ls As Bs Cs):=by unfold bZy;infer_instance
def bA8(I:Int)(Ls As:List (Int×Int))(Bs Cs:List Int):Int:=if I<0 then 8 else if few I Ls As Bs Cs then(if bZy I Ls As Bs Cs then 0 else 8) else 4
section
variable {I:Int} {Ls As:List (Int×Int)} {Bs Cs:List Int}
theorem bRz{α:Type}{l:List α}{p:α->Bool}{q:α->Prop}(h:∀x∈l,(p x=false↔q x)):l.any p=false↔∀x∈l,q x:=by
 rw[List.any_eq_false]
 exact⟨fun g x hx=>(h x hx).1 (by simpa using g x hx),fun g x hx=>by simpa using(h x hx).2 (g x hx)⟩
theorem shr1(x:Int):bshr .i64 x 1=x/2:=by
 unfold bshr
 rw[show min (Int.toNat 1) IntKind.i64.bits=1 from rfl,Int.fdiv_eq_ediv_of_nonneg _ (by decide)]
 rfl
theorem bRc{n x:Int}:outF (n+1) x=false↔litN n x:=by
 unfold outF
 rw[shr1,Bool.or_eq_false_iff,decide_eq_false_iff_not,decide_eq_false_iff_not]
 omega
theorem bV0{n:Int}{x:Int×Int}:bNv (n+1) x=false↔latN n x:=by
 unfold bNv
 rw[Bool.or_eq_false_iff,Bool.or_eq_false_iff,bRc,decide_eq_false_iff_not,decide_eq_false_iff_not]
 omega
theorem bBm.loop{s0 s1 s3:Int}(h:As.length<=140737488351232/\∀x∈As,in64 x.1/\in64 x.2){n:Int}(hn:0<=n/\n<=1000000)(hA:n+As.length<=1000000):∀(m i:Nat),i+m=As.length ->
  bBm.l0 As (As.length:Int) (i:Int) [s0,s1,n,s3]=some (if okG (n+i) (As.drop i)=true then 0 else 8)
 |0,i,hi=>by
  rw[bBm.l0_eq,cd,if_neg (by omega),List.drop_of_length_le (by omega)]
  rfl
 |m+1,i,hi=>by
  have hlt:i<As.length:=by omega
  obtain⟨h1,h2⟩:=h.2 _ (List.getElem_mem hlt)
  have hw:IntKind.wrap .i64 ((i:Int)+1)=((i+1:Nat):Int):=by rw[wr]<;>omega
  have hw2:IntKind.wrap .i64 (2*IntKind.wrap .i64 (n+(i:Int)))=2*(n+(i:Int)):=by rw[wr (x:=n+(i:Int)) (by omega) (by omega),wr (by omega) (by omega)]
  rw[bBm.l0_eq,cd,if_pos (by omega),bB0 hlt,Option.bind_some,cd,drop_cons hlt]
  unfold okG
  by_cases c1:(As[i]).2<0
  .rw[if_pos c1,decide_eq_false (by omega:¬0<=(As[i]).2)];rfl
  rw[if_neg c1,cd,decide_eq_true (by omega:0<=(As[i]).2),Bool.true_and]
  by_cases c2:(As[i]).1<(As[i]).2
  .rw[if_pos c2,decide_eq_false (by omega:¬(As[i]).2<=(As[i]).1)];rfl
  rw[if_neg c2,decide_eq_true (by omega:(As[i]).2<=(As[i]).1),Bool.true_and,show geti [s0,s1,n,s3] 2=some n from rfl,Option.bind_some,show([s0,s1,n,s3]:List Int)[Int.toNat 2]?=some n from rfl,Option.bind_some,hw2,cd]
  by_cases c3:(As[i]).1>=2*(n+(i:Int))
  .rw[if_pos c3,decide_eq_false (by omega:¬(As[i]).1/2<n+(i:Int))];rfl
  rw[if_neg c3,decide_eq_true (by omega:(As[i]).1/2<n+(i:Int)),Bool.true_and,hw,bBm.loop h hn hA m (i+1) (by omega),show n+((i+1:Nat):Int)=n+(i:Int)+1 from by omega]
theorem bC4(h:bDd I Ls As Bs Cs):bBm I Ls As Bs Cs=some (bA8 I Ls As Bs Cs):=by
 have h1:=h.ls.1
 have h2:=h.as_.1
 have h3:=h.bs.1
 have h4:=h.cs.1
 unfold bA8
 rw[bBm.eq,cd]
 by_cases c1:I<0
 .rw[if_pos c1,if_pos c1]
 rw[if_neg c1,if_neg c1,cd]
 by_cases c2:I>1000
 .rw[if_pos c2,if_neg (fun g=>by have:=g.1;omega)]
 have w1:IntKind.wrap .i64 (1+I)=1+I:=by rw[wr]<;>omega
 have w2:IntKind.wrap .i64 (1+I+(Ls.length:Int))=1+I+(Ls.length:Int):=by rw[wr]<;>omega
 have w3:IntKind.wrap .i64 (1+I+(Ls.length:Int)+(As.length:Int))=size I Ls As+1:=by unfold size;rw[wr]<;>omega
 have w4:IntKind.wrap .i64 (size I Ls As+1-1)=size I Ls As:=by unfold size;rw[wr]<;>omega
 rw[if_neg c2,w1,w2,w3,show geti [1,1+I,1+I+(Ls.length:Int),size I Ls As+1] 3=some (size I Ls As+1) from rfl,Option.bind_some,w4,cd]
 by_cases c3:size I Ls As>1000
 .rw[if_pos c3,if_neg (fun g=>by have:=g.2.1;unfold size at c3;omega)]
 rw[if_neg c3,cd]
 by_cases c4:(if(Bs.length:Int)<(Cs.length:Int) then(Cs.length:Int) else(Bs.length:Int))>100
 .rw[if_pos c4,if_neg (fun g=>by have:=g.2.2;split at c4<;>omega)]
 have c4':Bs.length<=100/\Cs.length<=100:=by split at c4<;>omega
 have c3':I+Ls.length+As.length<=1000:=by unfold size at c3;omega
 have hf:few I Ls As Bs Cs:=⟨by omega,by unfold size at c3;omega,c4'.1,c4'.2⟩
 rw[if_neg c4,if_pos hf,cd,if_pos (by unfold LIM;omega)]
 have e1:Bs.any (outF (size I Ls As+1))=false↔∀l∈Bs,litN (size I Ls As) l:=bRz fun x _=>bRc
 have e2:Cs.any (outF (size I Ls As+1))=false↔∀l∈Cs,litN (size I Ls As) l:=bRz fun x _=>bRc
 have e3:Ls.any (bNv (size I Ls As+1))=false↔∀l∈Ls,latN (size I Ls As) l:=bRz fun x _=>bV0
 cases q1:Bs.any (outF (size I Ls As+1)) with
 |true=>rw[ct,if_neg (fun g=>by rw[e1.2 g.1]at q1;cases q1)]
 |false=>
  rw[cf,cd,if_pos (by unfold LIM;omega)]
  cases q2:Cs.any (outF (size I Ls As+1)) with
  |true=>rw[ct,if_neg (fun g=>by rw[e2.2 g.2.1]at q2;cases q2)]
  |false=>
   rw[cf,cd,if_pos (by unfold LIM;omega)]
   cases q3:Ls.any (bNv (size I Ls As+1)) with
   |true=>rw[ct,if_neg (fun g=>by rw[e3.2 g.2.2.1]at q3;cases q3)]
   |false=>
    have:=bBm.loop (s0:=1) (s1:=1+I) (s3:=size I Ls As+1) h.as_ (n:=1+I+(Ls.length:Int)) (by unfold size at c3;omega) (by unfold size at c3;omega) As.length 0 (by omega)
    rw[show((0:Nat):Int)=0 from rfl,List.drop_zero,Int.add_zero]at this
    rw[cf,this]
    by_cases q4:okG (1+I+(Ls.length:Int)) As=true
    .rw[if_pos q4,if_pos ⟨e1.1 q1,e2.1 q2,e3.1 q3,q4⟩]
    .rw[if_neg q4,if_neg (fun g=>q4 g.2.2.2)]
theorem bA5(h:bA8 I Ls As Bs Cs=0):0<=I/\few I Ls As Bs Cs/\bZy I Ls As Bs Cs:=by
 unfold bA8 at h
 split at h
 .omega
 .split at h
  .split at h
   .exact⟨by omega,by assumption,by assumption⟩
   .omega
  .omega
theorem bDt(h:bDd I Ls As Bs Cs):bFt I Ls As Bs Cs=some (if bA8 I Ls As Bs Cs=0 then(size I Ls As,0) else(0,bA8 I Ls As Bs Cs)):=by
 rw[bFt.eq,bC4 h,Option.bind_some,cn]
 by_cases c:bA8 I Ls As Bs Cs=0
 .obtain⟨k1,k2,_⟩:=bA5 c
  obtain⟨k2,k3,_⟩:=k2
  have w1:IntKind.wrap .i64 (1+I)=1+I:=by rw[wr]<;>omega
  have w2:IntKind.wrap .i64 (1+I+(Ls.length:Int))=1+I+(Ls.length:Int):=by rw[wr]<;>omega
  have w3:IntKind.wrap .i64 (1+I+(Ls.length:Int)+(As.length:Int))=size I Ls As+1:=by unfold size;rw[wr]<;>omega
  have w4:IntKind.wrap .i64 (size I Ls As+1-1)=size I Ls As:=by unfold size;rw[wr]<;>omega
  rw[if_pos c,if_pos c,w1,w2,w3,show geti [1,1+I,1+I+(Ls.length:Int),size I Ls As+1] 3=some (size I Ls As+1) from rfl,Option.bind_some,w4]
 .rw[if_neg c,if_neg c]
theorem td2{l:Int}(h0:0<=l)(h:in64 l):IntKind.wrap .i64 (Int.tdiv l 2)=l/2:=by rw[td h0 (by unfold in64 at h;omega)]
end
end
section
theorem bP7{n:Nat}(h:(n:Int)<=9223372036854775806):(BitVec.ofInt 64 (n:Int)).toNat=n:=by
 rw[BitVec.toNat_ofInt];omega
theorem bVt{l:Int}(h:0<=l)(h2:l<=9223372036854775806):band .i64 l 1=l%2:=by
 unfold band
 obtain⟨n,rfl⟩:=Int.eq_ofNat_of_zero_le h
 have hx:((BitVec.ofInt 64 (n:Int))&&&(BitVec.ofInt 64 1)).toNat=n%2:=by
  rw[BitVec.toNat_and,bP7 h2,show(BitVec.ofInt 64 1).toNat=1 by decide,Nat.and_one_is_mod]
 show IntKind.wrap .i64 (((BitVec.ofInt 64 (n:Int))&&&(BitVec.ofInt 64 1)).toNat:Int)=_
 rw[hx,wr]<;>omega
theorem bXv{l:Int}(h:0<=l)(h2:l<=9223372036854775806):bxor .i64 l 0=l:=by
 unfold bxor
 obtain⟨n,rfl⟩:=Int.eq_ofNat_of_zero_le h
 have hx:((BitVec.ofInt 64 (n:Int))^^^(BitVec.ofInt 64 0)).toNat=n:=by
  rw[BitVec.toNat_xor,bP7 h2,show(BitVec.ofInt 64 0).toNat=0 by decide,Nat.xor_zero]
 show IntKind.wrap .i64 (((BitVec.ofInt 64 (n:Int))^^^(BitVec.ofInt 64 0)).toNat:Int)=_
 rw[hx,wr]<;>omega
def litR(row:List Int)(l:Int):Int:=row.getD (l/2).toNat 0+l%2
theorem bF2{row:List Int}{l:Int}(hl:0<=l/\l<=1000000)(hi:(l/2).toNat<row.length){j:Int}(hj:row.getD (l/2).toNat 0=2*j)(hj2:0<=j/\j<=1000000):bDj row l=some (litR row l):=by
 have hg:geti row (l/2)=some (2*j):=by
  rw[show l/2=(((l/2).toNat:Nat):Int) from by omega,bB0 hi]
  rw[List.getD_eq_getElem?_getD,List.getElem?_eq_getElem hi,Option.getD_some]at hj
  rw[hj]
 rw[bDj.eq,td hl.1 (by omega),hg,Option.bind_some,bVt hl.1 (by omega)]
 unfold litR
 rw[hj]
 rcases(by omega:l%2=0\/l%2=1) with e|e
 .rw[e,bXv (by omega) (by omega),Int.add_zero]
 .rw[e,bD0 (by omega) (by omega)]
  unfold neg
  rw[if_pos (by omega)]
theorem bSn{row:List Int}{l j:Int}(hj:row.getD (l/2).toNat 0=2*j):litR row (neg l)=neg (litR row l):=by
 unfold litR
 rw[bCh,hj]
 unfold neg
 split<;>split<;>omega
def ins1(x:Int):List Int->List Int
 |[]=>[x]
 |y::r=>if x<y then x::y::r else if x=y then y::r else y::ins1 x r
def nrm(l:List Int):List Int:=l.foldr ins1 []
theorem bPd{x z:Int}:∀{S:List Int},z∈ins1 x S↔z=x\/z∈S
 |[]=>by simp[ins1]
 |y::r=>by
  unfold ins1
  split
  .rw[List.mem_cons]
  .split
   .rename_i e
    subst e
    rw[List.mem_cons]
    exact⟨.inr,fun h=>h.elim .inl id⟩
   .rw[List.mem_cons,bPd (S:=r),List.mem_cons]
    constructor
    .rintro(h|h|h)
     .exact .inr (.inl h)
     .exact .inl h
     .exact .inr (.inr h)
    .rintro(h|h|h)
     .exact .inr (.inl h)
     .exact .inl h
     .exact .inr (.inr h)
theorem bLq{x:Int}:∀{S:List Int},S.Pairwise (· < ·)->(ins1 x S).Pairwise (· < ·)
 |[],_=>by simp[ins1]
 |y::r,h=>by
  have h':=h
  rw[List.pairwise_cons]at h
  unfold ins1
  split
  .rename_i hlt
   rw[List.pairwise_cons]
   refine⟨fun z hz=>?_,h'⟩
   rcases List.mem_cons.1 hz with rfl|hz
   .exact hlt
   .have:=h.1 z hz;omega
  .split
   .exact h'
   .rw[List.pairwise_cons]
    refine⟨fun z hz=>?_,bLq h.2⟩
    rcases bPd.1 hz with rfl|hz
    .omega
    .exact h.1 z hz
theorem bJp:∀(l:List Int),(nrm l).Pairwise (· < ·)/\∀z,z∈nrm l↔z∈l
 |[]=>⟨List.Pairwise.nil,fun z=>Iff.rfl⟩
 |x::r=>by
  obtain⟨h1,h2⟩:=bJp r
  refine⟨bLq h1,fun z=>?_⟩
  show z∈ins1 x (nrm r)↔_
  rw[bPd,h2,List.mem_cons]
theorem bRu(l:List Int):Lib.compact (bJf l)=nrm l:=by
 obtain⟨p1,p2⟩:=bDv l
 obtain⟨c1,c2⟩:=bQo p2
 obtain⟨n1,n2⟩:=bJp l
 exact bJk c1 n1 fun y=>by rw[c2,p1.mem_iff,n2]
def bLb(l:List Int):Bool:=l.any fun x=>l.any fun y=>decide (x≠y/\x/2=y/2)
theorem bFu{l:List Int}:bLb l=true↔∃x∈l,∃y∈l,x≠y/\x/2=y/2:=by
 unfold bLb
 rw[List.any_eq_true]
 constructor
 .rintro⟨x,hx,h⟩
  rw[List.any_eq_true]at h
  obtain⟨y,hy,h⟩:=h
  exact⟨x,hx,y,hy,by simpa using h⟩
 .rintro⟨x,hx,y,hy,h⟩
  exact⟨x,hx,List.any_eq_true.2 ⟨y,hy,by simpa using h⟩⟩
theorem bX1{C:List Int}(hC:C.Pairwise (· < ·)):(∀j,j<C.length->0<=j->0<j->C.getD j 0/2≠C.getD (j-1) 0/2)↔bLb C=false:=by
 have at_:∀{j},(hj:j<C.length)->C.getD j 0=C[j]:=fun hj=>by rw[List.getD_eq_getElem?_getD,List.getElem?_eq_getElem hj,Option.getD_some]
 have lt:∀{i j:Nat} (hi:i<C.length) (hj:j<C.length),i<j->C[i]<C[j]:=fun hi hj h=>List.pairwise_iff_getElem.1 hC _ _ hi hj h
 constructor
 .intro h
  rw[<-Bool.not_eq_true]
  intro ht
  have main:∀x∈C,∀y∈C,x<y->x/2=y/2->False:=by
   intro x hx y hy hlt he
   obtain⟨i,hi,rfl⟩:=List.getElem_of_mem hx
   obtain⟨j,hj,rfl⟩:=List.getElem_of_mem hy
   have hij:i<j:=by
    apply Classical.byContradiction
    intro hn
    rcases Nat.lt_or_ge j i with q|q
    .have:=lt hj hi q;omega
    .have:i=j:=by omega
     subst this;omega
   have hij2:i=j-1:=by
    apply Classical.byContradiction
    intro hn
    have h1:=lt hi (j:=j-1) (by omega) (by omega)
    have h2:=lt (i:=j-1) (by omega) hj (by omega)
    omega
   have:=h j hj (by omega) (by omega)
   rw[at_ hj,at_ (by omega)]at this
   subst hij2
   exact this he.symm
  obtain⟨x,hx,y,hy,hne,he⟩:=bFu.1 ht
  rcases Int.lt_or_gt_of_ne hne with q|q
  .exact main x hx y hy q he
  .exact main y hy x hx q he.symm
 .intro h j hj _ h0 he
  rw[at_ hj,at_ (by omega)]at he
  have:=bFu.2 ⟨_,List.getElem_mem hj,_,List.getElem_mem (show j-1<C.length by omega),by have:=lt (i:=j-1) (by omega) hj (by omega);omega,he⟩
  rw[h]at this;cases this
theorem bQ5{a b:List Int}(h:∀z,z∈a↔z∈b):bLb a=bLb b:=by
 rw[Bool.eq_iff_iff,bFu,bFu]
 constructor
 .rintro⟨x,hx,y,hy,e⟩;exact⟨x,(h x).1 hx,y,(h y).1 hy,e⟩
 .rintro⟨x,hx,y,hy,e⟩;exact⟨x,(h x).2 hx,y,(h y).2 hy,e⟩
theorem bM0{v:Int}(hv:okV v){l:List Int}(hl:∀x∈l,isLit v x)(hn:l.length<=1000000):bAx v l=some (if bLb l=true then([],true,0) else(nrm l,false,0)):=by
 obtain⟨p1,p2⟩:=bDv l
 obtain⟨n1,n2⟩:=bJp l
 have hcl:(Lib.compact (bJf l)).length<=1000000:=by
  have:=bRw (bJf l)
  rw[p1.length_eq]at this;omega
 have hv':=hv
 obtain⟨v1,v2⟩:=hv'
 have g0:=bAx.loop0 hv hl hn l.length 0 (by omega)
 rw[bRu]at g0 hcl
 have g1:=bAx.loop1 hcl (fun x hx=>by have:=hl x ((n2 x).1 hx);omega) (nrm l).length 0 (by omega)
 rw[show((0:Nat):Int)=0 from rfl]at g0 g1
 have e:bAx v l=bAx.l1 ((nrm l).length:Int) 0 (nrm l):=by
  rw[bAx.eq,cd,if_neg (by omega),cd,if_neg (by omega),g0]
 rw[e,g1,bQ5 (fun z=>(n2 z).symm)]
 by_cases hall:∀j,j<(nrm l).length->0<=j->0<j->(nrm l).getD j 0/2≠(nrm l).getD (j-1) 0/2
 .rw[if_pos hall,(bX1 n1).1 hall,if_neg (by simp)]
 .rw[if_neg hall,if_pos (by rw[<-Bool.not_eq_false];exact fun h=>hall ((bX1 n1).2 h))]
def big(ls:List Int):List Int:=ls.filter fun x=>decide (1<x)
def addC(cl:List (List Int))(ls:List Int):List (List Int):=if 1∈ls then cl else if bLb (big ls)=true then cl else cl++[nrm (big ls)]
theorem bBj.loop{v:Int}(hv:okV v){cl:List (List Int)}(hcl:cl.length<=100000){ls:List Int}(hl:∀x∈ls,0<=x/\x<=2*v+1)(hn:ls.length<=1000):∀(n i:Nat),i+n=ls.length->1∉ls.take i ->
  bBj.l0 v ls (ls.length:Int) (i:Int) cl (big (ls.take i))=some (addC cl ls)
 |0,i,hi,h1=>by
  rw[List.take_of_length_le (by omega)]at h1 ⊢
  have hb:∀x∈big ls,isLit v x:=fun x hx=>by
   obtain⟨h1,h2⟩:=List.mem_filter.1 hx
   have:=hl x h1
   have:1<x:=by simpa using h2
   exact⟨by omega,by omega⟩
  have hbn:(big ls).length<=ls.length:=List.length_filter_le _ _
  rw[bBj.l0_eq,cd,if_neg (by omega),bM0 hv hb (by omega),Option.bind_some]
  unfold addC
  rw[if_neg h1]
  by_cases ht:bLb (big ls)=true
  .rw[if_pos ht,if_pos ht];rfl
  .rw[if_neg ht,if_neg ht]
   dsimp only
   rw[cn,if_pos rfl,cf,bB1 (by simp;omega),Option.bind_some]
 |n+1,i,hi,h1=>by
  have hlt:i<ls.length:=by omega
  have hx:=hl _ (List.getElem_mem hlt)
  have hw:IntKind.wrap .i64 ((i:Int)+1)=((i+1:Nat):Int):=by rw[wr]<;>omega
  have hbn:(big (ls.take i)).length<=(ls.take i).length:=List.length_filter_le _ _
  rw[List.length_take]at hbn
  rw[bBj.l0_eq,cd,if_pos (by omega),bB0 hlt,Option.bind_some,ce]
  by_cases e1:ls[i]=1
  .rw[if_pos e1]
   unfold addC
   rw[if_pos (e1▸List.getElem_mem hlt)]
  .have h1':1∉ls.take (i+1):=by
    rw[List.take_add_one,List.getElem?_eq_getElem hlt,List.mem_append,Option.toList_some,List.mem_singleton]
    rintro(h|h)
    .exact h1 h
    .exact e1 h.symm
   have ih:=bBj.loop hv hcl hl hn n (i+1) (by omega) h1'
   have hb:big (ls.take (i+1))=big (ls.take i)++if 1<ls[i] then[ls[i]] else[]:=by
    unfold big
    rw[List.take_add_one,List.getElem?_eq_getElem hlt,Option.toList_some,List.filter_append]
    congr 1
    by_cases h:1<ls[i]<;>simp[h]
   rw[if_neg e1,cd,hw,<-ih,hb]
   by_cases e2:ls[i]>1
   .rw[if_pos e2,if_pos e2,bB1 (by simp;omega),Option.bind_some]
   .rw[if_neg e2,if_neg e2,List.append_nil]
theorem bF3{v:Int}(hv:okV v){cl:List (List Int)}(hcl:cl.length<=100000){ls:List Int}(hl:∀x∈ls,0<=x/\x<=2*v+1)(hn:ls.length<=1000):bBj cl v ls=some (addC cl ls):=by
 have:=bBj.loop hv hcl hl hn ls.length 0 (by omega) (by simp)
 rw[bBj.eq]
 exact this
theorem bPo{cl:List (List Int)}{ls:List Int}:(addC cl ls).length<=cl.length+1:=by
 unfold addC
 split
 .omega
 .split
  .omega
  .simp
def setB(M:List Bool)(v:Int):List Bool:=M.set v.toNat true
theorem bCs{M:List Bool}{v:Int}:(setB M v).length=M.length:=List.length_set ..
theorem bFa{M:List Bool}{v:Int}(h:v.toNat<M.length){j:Nat}:(setB M v).getD j false=(decide (j=v.toNat)||M.getD j false):=by
 unfold setB
 rw[List.getD_eq_getElem?_getD,List.getElem?_set,List.getD_eq_getElem?_getD]
 by_cases e:v.toNat=j
 .subst e
  rw[if_pos rfl,if_pos h,decide_eq_true rfl];rfl
 .rw[if_neg e,decide_eq_false (fun q=>e q.symm),Bool.false_or]
def bMq(M:List Bool):List Int->List Bool
 |[]=>M
 |l::r=>bMq (setB M (l/2)) r
theorem bG1:∀{ls:List Int} {M:List Bool},(bMq M ls).length=M.length
 |[],M=>rfl
 |l::r,M=>by rw[bMq,bG1,bCs]
def bH8(f:Nat)(As:List (Int×Int)):Nat->List Bool->List Bool
 |0,M=>M
 |k+1,M=>bH8 f As k (if M.getD (f+k) false=true then setB (setB M ((As.getD k (0,0)).1/2)) ((As.getD k (0,0)).2/2) else M)
theorem bQn{f:Nat}{As:List (Int×Int)}:∀{k:Nat} {M:List Bool},(bH8 f As k M).length=M.length
 |0,M=>rfl
 |k+1,M=>by
  rw[bH8,bQn]
  split
  .rw[bCs,bCs]
  .rfl
def bH2(f:Nat)(As:List (Int×Int)):Prop:=∀k,k<As.length->0<=(As.getD k (0,0)).2/\(As.getD k (0,0)).2<=(As.getD k (0,0)).1/\(As.getD k (0,0)).1/2<(f:Int)+k
theorem bWw:∀{As:List (Int×Int)} {n:Int},okG n As=true->∀k,k<As.length->0<=(As.getD k (0,0)).2/\(As.getD k (0,0)).2<=(As.getD k (0,0)).1/\(As.getD k (0,0)).1/2<n+k
 |[],n,h,k,hk=>by simp at hk
 |x::r,n,h,k,hk=>by
  unfold okG at h
  rw[Bool.and_eq_true,Bool.and_eq_true,Bool.and_eq_true,decide_eq_true_eq,decide_eq_true_eq,decide_eq_true_eq]at h
  obtain⟨⟨⟨h1,h2⟩,h3⟩,h4⟩:=h
  cases k with
  |zero=>exact⟨h1,h2,by simpa using h3⟩
  |succ k=>
   have:=bWw h4 k (by simpa using hk)
   rw[List.getD_cons_succ]
   refine⟨this.1,this.2.1,?_⟩
   have:=this.2.2
   omega
section
variable {f:Nat} {As:List (Int×Int)}
theorem bMd(hb:bH2 f As):∀{k:Nat} {M:List Bool},k<=As.length->f+As.length<=M.length->∀j,M.getD j false=true->(bH8 f As k M).getD j false=true
 |0,M,_,_,j,h=>h
 |k+1,M,hk,hM,j,h=>by
  obtain⟨b1,b2,b3⟩:=hb k (by omega)
  rw[bH8]
  refine bMd hb (by omega) (by split<;>first|exact hM|(rw[bCs,bCs];exact hM)) j ?_
  split
  .rw[bFa (by rw[bCs];omega),bFa (by omega),h];simp
  .exact h
theorem bLw(hb:bH2 f As):∀{k:Nat} {M:List Bool},k<=As.length->f+As.length<=M.length->∀j,f+k<=j+1->(bH8 f As k M).getD j false=M.getD j false
 |0,M,_,_,j,h=>rfl
 |k+1,M,hk,hM,j,h=>by
  obtain⟨b1,b2,b3⟩:=hb k (by omega)
  rw[bH8,bLw hb (by omega) (by split<;>first|exact hM|(rw[bCs,bCs];exact hM)) j (by omega)]
  split
  .rw[bFa (by rw[bCs];omega),bFa (by omega),decide_eq_false (by omega),decide_eq_false (by omega),Bool.false_or,Bool.false_or]
  .rfl
def bHo(f:Nat)(As:List (Int×Int))(M:List Bool):Prop:=∀k,k<As.length->M.getD (f+k) false=true->M.getD ((As.getD k (0,0)).1/2).toNat false=true/\M.getD ((As.getD k (0,0)).2/2).toNat false=true
theorem bH0(hb:bH2 f As):∀{k:Nat} {M:List Bool},k<=As.length->f+As.length<=M.length->∀j,j<k->(bH8 f As k M).getD (f+j) false=true ->
  (bH8 f As k M).getD ((As.getD j (0,0)).1/2).toNat false=true/\(bH8 f As k M).getD ((As.getD j (0,0)).2/2).toNat false=true
 |0,M,_,_,j,h,_=>by omega
 |k+1,M,hk,hM,j,h,ht=>by
  obtain⟨b1,b2,b3⟩:=hb k (by omega)
  have hlen:f+As.length<=(if M.getD (f+k) false=true then setB (setB M ((As.getD k (0,0)).1/2)) ((As.getD k (0,0)).2/2) else M).length:=by split<;>first|exact hM|(rw[bCs,bCs];exact hM)
  rw[bH8]at ht ⊢
  rcases Nat.lt_or_ge j k with q|q
  .exact bH0 hb (by omega) hlen j q ht
  .have e:j=k:=by omega
   subst e
   rw[bLw hb (by omega) hlen _ (by omega)]at ht
   have hm:M.getD (f+j) false=true:=by
    split at ht
    .rw[bFa (by rw[bCs];omega),bFa (by omega),decide_eq_false (by omega),decide_eq_false (by omega),Bool.false_or,Bool.false_or]at ht
     exact ht
    .exact ht
   rw[if_pos hm]at hlen ⊢
   exact⟨bMd hb (by omega) hlen _ (by rw[bFa (by rw[bCs];omega),bFa (by omega),decide_eq_true (rfl),Bool.true_or,Bool.or_true]),
    bMd hb (by omega) hlen _ (by rw[bFa (by rw[bCs];omega),decide_eq_true (rfl),Bool.true_or])⟩
end
def cntM(M:List Bool):Nat->Nat
 |0=>0
 |v+1=>cntM M v+if M.getD (v+1) false=true then 1 else 0
theorem bHc{M:List Bool}:∀{a b:Nat},a<=b->cntM M a<=cntM M b/\cntM M b<=cntM M a+(b-a)
 |a,0,h=>by
  have:a=0:=by omega
  subst this;omega
 |a,b+1,h=>by
  by_cases e:a=b+1
  .subst e;omega
  .have:=bHc (M:=M) (a:=a) (b:=b) (by omega)
   rw[cntM]
   split<;>omega
def rowM(M:List Bool)(N k:Nat):List Int:=(List.range N).map fun v=>if v=0 then 0 else if v<=k then(if M.getD v false=true then 2*(cntM M v:Int) else -1) else 0
theorem bFo{M:List Bool}{N k:Nat}:(rowM M N k).length=N:=by simp[rowM]
theorem bZj{M:List Bool}{N k v:Nat}(h:v<N):(rowM M N k).getD v 0=if v=0 then 0 else if v<=k then(if M.getD v false=true then 2*(cntM M v:Int) else -1) else 0:=by
 rw[List.getD_eq_getElem?_getD,List.getElem?_eq_getElem (by rw[bFo];exact h),Option.getD_some]
 simp[rowM]
theorem bWo{M:List Bool}{N:Nat}:rowM M N 0=List.replicate N 0:=by
 refine List.ext_getElem (by rw[bFo,List.length_replicate]) fun j h1 h2=>?_
 rw[List.getElem_replicate]
 simp only[rowM,List.getElem_map,List.getElem_range]
 split
 .rfl
 .rw[if_neg (by omega)]
theorem bZi{M:List Bool}{N k:Nat}:(rowM M N k).set (k+1) (if M.getD (k+1) false=true then 2*(cntM M (k+1):Int) else -1)=rowM M N (k+1):=by
 refine List.ext_getElem (by rw[List.length_set,bFo,bFo]) fun j h1 h2=>?_
 rw[List.getElem_set]
 simp only[rowM,List.getElem_map,List.getElem_range]
 by_cases e:k+1=j
 .subst e
  rw[if_pos rfl,if_neg (show ¬k+1=0 by omega),if_pos (show k+1<=k+1 by omega)]
 .rw[if_neg e]
  by_cases e0:j=0
  .rw[if_pos e0,if_pos e0]
  .rw[if_neg e0,if_neg e0]
   by_cases e1:j<=k
   .rw[if_pos e1,if_pos (show j<=k+1 by omega)]
   .rw[if_neg e1,if_neg (show ¬j<=k+1 by omega)]
theorem bMi{M:List Bool}{n w:Nat}(hw:w<=n)(hm:w=0\/M.getD w false=true):(rowM M (n+1) n).getD w 0=2*(cntM M w:Int):=by
 rw[bZj (by omega)]
 by_cases e:w=0
 .subst e;rw[if_pos rfl];rfl
 .rw[if_neg e,if_pos hw,if_pos (hm.resolve_left e)]
def cDi(row:List Int)(g:Int)(x:Int×Int)(cl:List (List Int)):List (List Int):=
 addC (addC (addC cl [litR row (2*g+1),litR row x.1]) [litR row (2*g+1),litR row x.2]) [litR row (2*g),litR row (neg x.1),litR row (neg x.2)]
def bG4(M:List Bool)(row:List Int):Nat->List (Int×Int)->List (List Int)->List (List Int)
 |_,[],cl=>cl
 |g,x::r,cl=>bG4 M row (g+1) r (if M.getD g false=true then cDi row g x cl else cl)
end
section
variable {I:Int} {Ls As:List (Int×Int)} {Bs Cs:List Int} {f n:Nat}
theorem gdB{M:List Bool}{v:Nat}(h:v<M.length):M[v]?=some (M.getD v false):=by
 rw[List.getD_eq_getElem?_getD,List.getElem?_eq_getElem h];rfl
theorem getB{M:List Bool}{v:Nat}(h:v<M.length):geti M (v:Int)=some (M.getD v false):=by rw[gi,gdB h]
theorem getP{k:Nat}(h:k<As.length):geti As (k:Int)=some (As.getD k (0,0)):=by
 rw[gi,List.getD_eq_getElem?_getD,List.getElem?_eq_getElem h];rfl
theorem gdI{R:List Int}{v:Nat}(h:v<R.length):R[v]?=some (R.getD v 0):=by
 rw[List.getD_eq_getElem?_getD,List.getElem?_eq_getElem h];rfl
theorem getI{R:List Int}{v:Nat}(h:v<R.length):geti R (v:Int)=some (R.getD v 0):=by rw[gi,gdI h]
theorem bJs{x:Int}(h:0<=x)(h2:x<=1000000):IntKind.wrap .i64 (Int.tdiv x 2)=(((x/2).toNat:Nat):Int):=by
 rw[td h (by omega)];omega
theorem bAj.loop0{N:Nat}{ls:List Int}(hl:∀l∈ls,0<=l/\l<=1000000/\(l/2).toNat<N)(hn:ls.length<=1000)(hI:0<=I/\I<=1000)(hL:Ls.length<=1000)(hN:0<N/\N<=1000000):∀(n i:Nat) (M:List Bool),i+n=ls.length->M.length=N ->
  bAj.l0 ls (ls.length:Int) (i:Int) M I Ls As Bs Cs=bAj.l1 (1+I+Ls.length) ((N:Int)-1) (bMq M (ls.drop i)) I Ls As Bs Cs
 |0,i,M,hi,hM=>by
  have w1:IntKind.wrap .i64 (1+I)=1+I:=by rw[wr]<;>omega
  have w2:IntKind.wrap .i64 (1+I+(Ls.length:Int))=1+I+(Ls.length:Int):=by rw[wr]<;>omega
  have w3:IntKind.wrap .i64 ((M.length:Int)-1)=(N:Int)-1:=by rw[hM,wr]<;>omega
  rw[bAj.l0_eq,cd,if_neg (by omega),List.drop_of_length_le (by omega),w1,w2,w3]
  rfl
 |n+1,i,M,hi,hM=>by
  have hlt:i<ls.length:=by omega
  obtain⟨h0,h1,h2⟩:=hl _ (List.getElem_mem hlt)
  have hw:IntKind.wrap .i64 ((i:Int)+1)=((i+1:Nat):Int):=by rw[wr]<;>omega
  rw[bAj.l0_eq,cd,if_pos (by omega),bB0 hlt,Option.bind_some,bJs h0 h1,getB (by rw[hM];exact h2),Option.bind_some,Int.toNat_natCast,gdB (by rw[hM];exact h2),Option.bind_some,hw,
   bAj.loop0 hl hn hI hL hN n (i+1) _ (by omega) (by rw[List.length_set];exact hM),drop_cons hlt,bMq]
  rfl
theorem bAj.loop1(hb:bH2 f As)(hf:(f:Int)=1+I+Ls.length)(hN:f+As.length<=1001):∀(k:Nat) (M:List Bool),k<=As.length->M.length=f+As.length ->
  bAj.l1 (1+I+Ls.length) (((f+k:Nat):Int)-1) M I Ls As Bs Cs=some (bH8 f As k M)
 |0,M,hk,hM=>by
  rw[bAj.l1_eq,cd,if_neg (by omega)];rfl
 |k+1,M,hk,hM=>by
  obtain⟨b1,b2,b3⟩:=hb k (by omega)
  have e1:((f+(k+1):Nat):Int)-1=((f+k:Nat):Int):=by omega
  have w1:IntKind.wrap .i64 (((f+k:Nat):Int)-(1+I+Ls.length))=(k:Int):=by rw[wr]<;>omega
  have w2:IntKind.wrap .i64 (((f+k:Nat):Int)-1)=((f+k:Nat):Int)-1:=by rw[wr]<;>omega
  have i0:f+k<M.length:=by omega
  rw[e1,bAj.l1_eq,cd,if_pos (by omega),w1,w2,getP (by omega),Option.bind_some,getB i0,Option.bind_some,Int.toNat_natCast,gdB i0,Option.bind_some,bH8]
  generalize As.getD k (0,0)=x at *
  cases hm:M.getD (f+k) false with
  |true=>
   have i1:(x.1/2).toNat<M.length:=by omega
   have i2:(x.2/2).toNat<(M.set (x.1/2).toNat true).length:=by rw[List.length_set];omega
   rw[ct,bJs (by omega) (by omega),bJs (by omega) (by omega),getB i1,Option.bind_some,Int.toNat_natCast,gdB i1,Option.bind_some,Int.toNat_natCast,getB i2,Option.bind_some,gdB i2,Option.bind_some,if_pos rfl]
   exact bAj.loop1 hb hf hN k _ (by omega) (by rw[List.length_set,List.length_set];exact hM)
  |false=>
   rw[cf,if_neg (by simp)]
   exact bAj.loop1 hb hf hN k _ (by omega) hM
theorem bAk.loop0{ls:List Int}{v:Int}(hn:ls.length<=140737488351232)(hr:∀l∈ls,in64 l){b1:Int}{o2 o3:List (List Int)}:∀(m i:Nat),i+m=ls.length ->
  bAk.l0 ls v ls (ls.length:Int) (i:Int) I Ls As Bs Cs b1 o2 o3=if ∀l∈ls.drop i,litN v l then bAk.l0 ls v ls (ls.length:Int) (ls.length:Int) I Ls As Bs Cs b1 o2 o3 else some ((0,([],[])),2)
 |0,i,hi=>by
  have:i=ls.length:=by omega
  subst this
  rw[List.drop_length,if_pos (by simp)]
 |m+1,i,hi=>by
  have hlt:i<ls.length:=by omega
  have hx:=hr _ (List.getElem_mem hlt)
  have hw:IntKind.wrap .i64 ((i:Int)+1)=((i+1:Nat):Int):=by rw[wr]<;>omega
  rw[bAk.l0_eq (x31:=(i:Int)),cd,if_pos (by omega),bB0 hlt,Option.bind_some,cd,drop_cons hlt]
  by_cases c1:ls[i]<0
  .rw[if_pos c1,if_neg (fun g=>by have:=(g _ (List.mem_cons_self ..)).1;omega)]
  rw[if_neg c1,td2 (by omega) hx,cd]
  by_cases c2:ls[i]/2>v
  .rw[if_pos c2,if_neg (fun g=>by have:=(g _ (List.mem_cons_self ..)).2;omega)]
  rw[if_neg c2,hw,bAk.loop0 hn hr m (i+1) (by omega)]
  by_cases c3:∀l∈ls.drop (i+1),litN v l
  .rw[if_pos c3,if_pos (List.forall_mem_cons.2 ⟨⟨by omega,by omega⟩,c3⟩)]
  .rw[if_neg c3,if_neg (fun g=>c3 (List.forall_mem_cons.1 g).2)]
theorem bAk.loop1{M:List Bool}(hI:0<=I)(hM:M.length=n+1)(hn:n<=1000)(hf:(f:Int)=1+I+Ls.length)(hN:f+As.length<=1001){b1:Int}{o5 o6 o7 o8:List (List Int)}:∀(m k:Nat),k+m=n ->
  bAk.l1 (n:Int) ((k+1:Nat):Int) I Ls As Bs Cs b1 M (rowM M (n+1) k) (cntM M k:Int) o5 o6 o7 o8=bAk.l2 (f:Int) As (As.length:Int) 0 b1 M (rowM M (n+1) n) (cntM M n:Int) o5 o6 o7 o8
 |0,k,hk=>by
  have:k=n:=by omega
  subst this
  have w1:IntKind.wrap .i64 (1+I)=1+I:=by rw[wr]<;>omega
  have w2:IntKind.wrap .i64 (1+I+(Ls.length:Int))=(f:Int):=by rw[wr]<;>omega
  rw[bAk.l1_eq,cd,if_neg (by omega),w1,w2]
 |m+1,k,hk=>by
  have i1:k+1<(rowM M (n+1) k).length:=by rw[bFo];omega
  have i2:k+1<M.length:=by omega
  have hc:=bHc (M:=M) (a:=0) (b:=k) (by omega)
  have w1:IntKind.wrap .i64 (((k+1:Nat):Int)+1)=((k+1+1:Nat):Int):=by rw[wr]<;>omega
  rw[cntM]at hc
  have hs:=bZi (M:=M) (N:=n+1) (k:=k)
  rw[<-bAk.loop1 hI hM hn hf hN m (k+1) (by omega),bAk.l1_eq (v13:=((k+1:Nat):Int)),cd,if_pos (by omega),getI i1,Option.bind_some,Int.toNat_natCast,gdI i1,Option.bind_some,getB i2,Option.bind_some,gdB i2,Option.bind_some,w1]
  cases hm:M.getD (k+1) false with
  |true=>
   rw[hm,if_pos rfl]at hs
   have i3:k+1<((rowM M (n+1) k).set (k+1) (-1)).length:=by rw[List.length_set];exact i1
   have w2:IntKind.wrap .i64 ((cntM M k:Int)+1)=(cntM M (k+1):Int):=by rw[cntM,hm,if_pos rfl,wr]<;>omega
   have hc2:=bHc (M:=M) (a:=0) (b:=k+1) (by omega)
   rw[cntM]at hc2
   have w3:IntKind.wrap .i64 (2*(cntM M (k+1):Int))=2*(cntM M (k+1):Int):=by rw[wr]<;>omega
   rw[ct,getI i3,Option.bind_some,gdI i3,Option.bind_some,w2,w3,List.set_set,hs]
  |false=>
   rw[hm,if_neg (by simp)]at hs
   have hcc:cntM M (k+1)=cntM M k:=by rw[cntM,hm];rfl
   rw[cf,hs,hcc]
theorem bKu{M:List Bool}{l:Int}(h0:0<=l)(hl:(l/2).toNat<=n)(hm:(l/2).toNat=0\/M.getD (l/2).toNat false=true):litR (rowM M (n+1) n) l=2*(cntM M (l/2).toNat:Int)+l%2/\cntM M (l/2).toNat<=cntM M n:=by
 refine⟨?_,(bHc hl).1⟩
 unfold litR
 rw[bMi hl hm]
theorem bAk.loop2{M:List Bool}(hM:M.length=n+1)(hn:n<=1000)(hb:bH2 f As)(hc:bHo f As M)(hf:0<f)(hN:f+As.length=n+1){b1:Int}{o4 o5 o6:List (List Int)}:∀(m i:Nat) (cl:List (List Int)),i+m=As.length->cl.length<=3*i ->
  bAk.l2 (f:Int) As (As.length:Int) (i:Int) b1 M (rowM M (n+1) n) (cntM M n:Int) o4 o5 o6 cl=some (((cntM M n:Int),([rowM M (n+1) n],bG4 M (rowM M (n+1) n) (f+i) (As.drop i) cl)),0)
 |0,i,cl,hi,hcl=>by
  rw[bAk.l2_eq,cd,if_neg (by omega),List.drop_of_length_le (by omega)];rfl
 |m+1,i,cl,hi,hcl=>by
  have hlt:i<As.length:=by omega
  obtain⟨b1',b2,b3⟩:=hb i hlt
  have hcl':=hc i hlt
  have i1:f+i<M.length:=by omega
  have w1:IntKind.wrap .i64 ((f:Int)+(i:Int))=((f+i:Nat):Int):=by rw[wr]<;>omega
  have w2:IntKind.wrap .i64 ((i:Int)+1)=((i+1:Nat):Int):=by rw[wr]<;>omega
  have hd:As.drop i=As.getD i (0,0)::As.drop (i+1):=by
   rw[drop_cons hlt,List.getD_eq_getElem?_getD,List.getElem?_eq_getElem hlt];rfl
  have hv:okV (cntM M n:Int):=by
   have:=bHc (M:=M) (a:=0) (b:=n) (by omega)
   rw[cntM]at this
   unfold okV;omega
  rw[bAk.l2_eq,cd,if_pos (by omega),getP hlt,Option.bind_some,w1,w2,getB i1,Option.bind_some,Int.toNat_natCast,gdB i1,Option.bind_some,hd,bG4]
  generalize As.getD i (0,0)=x at *
  cases hm:M.getD (f+i) false with
  |false=>
   rw[cnot,cf,if_neg (by simp)]
   exact bAk.loop2 hM hn hb hc hf hN m (i+1) cl (by omega) (by omega)
  |true=>
   obtain⟨c1,c2⟩:=hcl' hm
   have i2:f+i<(rowM M (n+1) n).length:=by rw[bFo];omega
   obtain⟨j1,j2⟩:(rowM M (n+1) n).getD (f+i) 0=2*(cntM M (f+i):Int)/\cntM M (f+i)<=cntM M n:=⟨bMi (by omega) (.inr hm),(bHc (by omega)).1⟩
   have g1:litR (rowM M (n+1) n) (2*((f+i:Nat):Int))=2*(cntM M (f+i):Int):=by
    unfold litR
    rw[show 2*((f+i:Nat):Int)/2=((f+i:Nat):Int) by omega,Int.toNat_natCast,j1];omega
   have g2:litR (rowM M (n+1) n) (2*((f+i:Nat):Int)+1)=2*(cntM M (f+i):Int)+1:=by
    unfold litR
    rw[show(2*((f+i:Nat):Int)+1)/2=((f+i:Nat):Int) by omega,Int.toNat_natCast,j1];omega
   obtain⟨a1,a2⟩:=bKu (n:=n) (M:=M) (l:=x.1) (by omega) (by omega) (.inr c1)
   obtain⟨a3,a4⟩:=bKu (n:=n) (M:=M) (l:=x.2) (by omega) (by omega) (.inr c2)
   have r1:=bMi (M:=M) (n:=n) (w:=(x.1/2).toNat) (by omega) (.inr c1)
   have r2:=bMi (M:=M) (n:=n) (w:=(x.2/2).toNat) (by omega) (.inr c2)
   have t1:=bF2 (row:=rowM M (n+1) n) (l:=x.1) (by omega) (by rw[bFo];omega) r1 (by obtain⟨_,q⟩:=hv;omega)
   have t2:=bF2 (row:=rowM M (n+1) n) (l:=x.2) (by omega) (by rw[bFo];omega) r2 (by obtain⟨_,q⟩:=hv;omega)
   have n1:=bSn (row:=rowM M (n+1) n) (l:=x.1) r1
   have n2:=bSn (row:=rowM M (n+1) n) (l:=x.2) r2
   obtain⟨v1,v2⟩:=hv
   have x1:bxor .i64 (2*(cntM M (f+i):Int)) 1=litR (rowM M (n+1) n) (2*((f+i:Nat):Int)+1):=by
    rw[bD0 (by omega) (by omega),g2];unfold neg;rw[if_pos (by omega)]
   have x2:bxor .i64 (litR (rowM M (n+1) n) x.1) 1=litR (rowM M (n+1) n) (neg x.1):=by rw[bD0 (by omega) (by omega),n1]
   have x3:bxor .i64 (litR (rowM M (n+1) n) x.2) 1=litR (rowM M (n+1) n) (neg x.2):=by rw[bD0 (by omega) (by omega),n2]
   have y1:0<=litR (rowM M (n+1) n) (neg x.1)/\litR (rowM M (n+1) n) (neg x.1)<=2*(cntM M n:Int)+1:=by rw[n1,a1];unfold neg;split<;>omega
   have y2:0<=litR (rowM M (n+1) n) (neg x.2)/\litR (rowM M (n+1) n) (neg x.2)<=2*(cntM M n:Int)+1:=by rw[n2,a3];unfold neg;split<;>omega
   have m1:∀z∈[litR (rowM M (n+1) n) (2*((f+i:Nat):Int)+1),litR (rowM M (n+1) n) x.1],0<=z/\z<=2*(cntM M n:Int)+1:=fun z hz=>by
    rcases List.mem_cons.1 hz with rfl|hz
    .omega
    .rw[List.mem_singleton]at hz;subst hz;omega
   have m2:∀z∈[litR (rowM M (n+1) n) (2*((f+i:Nat):Int)+1),litR (rowM M (n+1) n) x.2],0<=z/\z<=2*(cntM M n:Int)+1:=fun z hz=>by
    rcases List.mem_cons.1 hz with rfl|hz
    .omega
    .rw[List.mem_singleton]at hz;subst hz;omega
   have m3:∀z∈[litR (rowM M (n+1) n) (2*((f+i:Nat):Int)),litR (rowM M (n+1) n) (neg x.1),litR (rowM M (n+1) n) (neg x.2)],0<=z/\z<=2*(cntM M n:Int)+1:=fun z hz=>by
    rcases List.mem_cons.1 hz with rfl|hz
    .omega
    .rcases List.mem_cons.1 hz with rfl|hz
     .exact y1
     .rw[List.mem_singleton]at hz;subst hz;exact y2
   have q1:=bPo (cl:=cl) (ls:=[litR (rowM M (n+1) n) (2*((f+i:Nat):Int)+1),litR (rowM M (n+1) n) x.1])
   have q2:=bPo (cl:=addC cl [litR (rowM M (n+1) n) (2*((f+i:Nat):Int)+1),litR (rowM M (n+1) n) x.1]) (ls:=[litR (rowM M (n+1) n) (2*((f+i:Nat):Int)+1),litR (rowM M (n+1) n) x.2])
   have q3:=bPo (cl:=addC (addC cl [litR (rowM M (n+1) n) (2*((f+i:Nat):Int)+1),litR (rowM M (n+1) n) x.1]) [litR (rowM M (n+1) n) (2*((f+i:Nat):Int)+1),litR (rowM M (n+1) n) x.2]) (ls:=[litR (rowM M (n+1) n) (2*((f+i:Nat):Int)),litR (rowM M (n+1) n) (neg x.1),litR (rowM M (n+1) n) (neg x.2)])
   rw[cnot,ct,getI i2,Option.bind_some,gdI i2,Option.bind_some,j1,t1,Option.bind_some,t2,Option.bind_some,x1,x2,x3,<-g1,
    bF3 ⟨v1,v2⟩ (by omega) m1 (by simp),Option.bind_some,bF3 ⟨v1,v2⟩ (by omega) m2 (by simp),Option.bind_some,bF3 ⟨v1,v2⟩ (by omega) m3 (by simp),Option.bind_some,if_pos rfl,
    bAk.loop2 hM hn hb hc hf hN m (i+1) _ (by omega) (by omega)]
   rfl
def bCb(I:Int)(Ls:List (Int×Int)):Nat:=(1+I+Ls.length).toNat
def bMm(I:Int)(Ls As:List (Int×Int))(lits:List Int):List Bool:=bH8 (bCb I Ls) As As.length (bMq (List.replicate ((size I Ls As).toNat+1) false) lits)
def tsM(I:Int)(Ls As:List (Int×Int))(M:List Bool):Int×List (List Int)×List (List Int):=
 ((cntM M (size I Ls As).toNat:Int),([rowM M ((size I Ls As).toNat+1) (size I Ls As).toNat],bG4 M (rowM M ((size I Ls As).toNat+1) (size I Ls As).toNat) (bCb I Ls) As []))
def tsC(I:Int)(Ls As:List (Int×Int))(lits:List Int):Int×List (List Int)×List (List Int):=tsM I Ls As (bMm I Ls As lits)
theorem bHv(h:bA8 I Ls As Bs Cs=0):bH2 (bCb I Ls) As:=by
 obtain⟨h0,_,g⟩:=bA5 h
 intro k hk
 have:=bWw g.2.2.2 k hk
 refine⟨this.1,this.2.1,?_⟩
 have:=this.2.2
 unfold bCb
 omega
theorem bNy(h:bDd I Ls As Bs Cs){lits:List Int}(hn:lits.length<=1000)(hr:∀l∈lits,in64 l):
  bAk I Ls As Bs Cs lits=some (if bA8 I Ls As Bs Cs=0 then(if ∀l∈lits,litN (size I Ls As) l then(tsC I Ls As lits,0) else((0,([],[])),2)) else((0,([],[])),bA8 I Ls As Bs Cs)):=by
 rw[bAk.eq,bDt h,Option.bind_some,cn]
 by_cases c:bA8 I Ls As Bs Cs=0
 .have hb:=bHv c
  obtain⟨k1,k2,_⟩:=bA5 c
  obtain⟨k2,k3,_⟩:=k2
  have hs:size I Ls As=(((size I Ls As).toNat:Nat):Int):=by unfold size;omega
  have hf:((bCb I Ls:Nat):Int)=1+I+Ls.length:=by unfold bCb;omega
  have hsz:bCb I Ls+As.length=(size I Ls As).toNat+1:=by unfold bCb size;omega
  have hs1:(size I Ls As).toNat<=1000:=by unfold size;omega
  rw[if_pos c,if_pos c]
  have g0:=bAk.loop0 (I:=I) (Ls:=Ls) (As:=As) (Bs:=Bs) (Cs:=Cs) (v:=size I Ls As) (b1:=0) (o2:=[]) (o3:=[]) (show lits.length<=140737488351232 by omega) hr lits.length 0 (by omega)
  rw[show((0:Nat):Int)=0 from rfl,List.drop_zero]at g0
  dsimp only
  rw[if_pos rfl,g0]
  by_cases cl:∀l∈lits,litN (size I Ls As) l
  .rw[if_pos cl,if_pos cl,bAk.l0_eq,cd,if_neg (by omega),hs]
   have w1:IntKind.wrap .i64 ((((size I Ls As).toNat:Nat):Int)+1)=(((size I Ls As).toNat+1:Nat):Int):=by rw[wr]<;>omega
   have hcl:∀l∈lits,0<=l/\l<=1000000/\(l/2).toNat<(size I Ls As).toNat+1:=fun l hl=>by
    have:=cl l hl
    unfold litN at this
    omega
   have c0:=bAj.loop0 (I:=I) (Ls:=Ls) (As:=As) (Bs:=Bs) (Cs:=Cs) (N:=(size I Ls As).toNat+1) hcl hn ⟨k1,by omega⟩ (by omega) ⟨by omega,by omega⟩ lits.length 0 (List.replicate ((size I Ls As).toNat+1) false) (by omega) (List.length_replicate ..)
   rw[show((0:Nat):Int)=0 from rfl,List.drop_zero]at c0
   have c1:=bAj.loop1 (I:=I) (Ls:=Ls) (As:=As) (Bs:=Bs) (Cs:=Cs) hb hf (by omega) As.length (bMq (List.replicate ((size I Ls As).toNat+1) false) lits) (Nat.le_refl _) (by rw[bG1,List.length_replicate];omega)
   rw[hsz]at c1
   have hM:(bMm I Ls As lits).length=(size I Ls As).toNat+1:=by unfold bMm;rw[bQn,bG1,List.length_replicate]
   have hclo:bHo (bCb I Ls) As (bMm I Ls As lits):=fun k hk ht=>bH0 hb (Nat.le_refl _) (by rw[bG1,List.length_replicate];omega) k hk ht
   rw[w1,bKo (by omega) (by omega),Option.bind_some,if_pos rfl,Int.toNat_natCast,bAj.eq,List.length_replicate,c0,c1]
   have hM':bH8 (bCb I Ls) As As.length (bMq (List.replicate ((size I Ls As).toNat+1) false) lits)=bMm I Ls As lits:=rfl
   have hnn:(Nat.blt 0 ((size I Ls As).toNat+1)&&Nat.beq ((size I Ls As).toNat+1) ((size I Ls As).toNat+1))=true:=by
    rw[Bool.and_eq_true]
    exact⟨by rw[Nat.blt_eq];omega,Nat.beq_refl _⟩
   rw[Option.bind_some,hM',hM,hnn,ct,bKo (by omega) (by omega),Option.bind_some,if_pos rfl,Int.toNat_natCast]
   have l1:=bAk.loop1 (I:=I) (Ls:=Ls) (As:=As) (Bs:=Bs) (Cs:=Cs) (b1:=0) (o5:=[]) (o6:=[]) (o7:=[]) (o8:=[]) k1 hM hs1 hf (by omega) (size I Ls As).toNat 0 (by omega)
   rw[bWo]at l1
   have l2:=bAk.loop2 (b1:=0) (o4:=[]) (o5:=[]) (o6:=[]) hM hs1 hb hclo (show 0<bCb I Ls by omega) hsz As.length 0 [] (by omega) (by simp)
   rw[List.drop_zero]at l2
   exact l1.trans l2
  .rw[if_neg cl,if_neg cl]
 .rw[if_neg c,if_neg c]
  dsimp only
  rw[if_neg c]
end
section
variable {I:Int} {Ls As:List (Int×Int)} {Bs Cs:List Int} {f n:Nat} {lits:List Int}
theorem bV5(h:bDd I Ls As Bs Cs)(hn:lits.length<=1000)(hr:∀l∈lits,in64 l)(hc:bA8 I Ls As Bs Cs=0)(hl:∀l∈lits,litN (size I Ls As) l){r:Int×List (List Int)×List (List Int)}(e:tsC I Ls As lits=r):bAk I Ls As Bs Cs lits=some (r,0):=by
 rw[bNy h hn hr,if_pos hc,if_pos hl,e]
theorem cCp(h1:in64 I)(h2:Ls.length<=100)(h3:∀x∈Ls,in64 x.1/\in64 x.2)(h4:As.length<=100)(h5:∀x∈As,in64 x.1/\in64 x.2):bDd I Ls As [] [] where
 i:=h1
 ls:=⟨by omega,h3⟩
 as_:=⟨by omega,h5⟩
 bs:=⟨by simp,by simp⟩
 cs:=⟨by simp,by simp⟩
theorem bC3{s l:Int}:litN s l↔0<=l/\l<=2*s+1:=by unfold litN;omega
end
section
variable {I:Int} {Ls As:List (Int×Int)} {Bs Cs:List Int} {lits:List Int}
end
section
variable {v:Int} {fr cl:List (List Int)}
end
section
variable {I:Int} {Ls As:List (Int×Int)} {Bs Cs:List Int} {f n:Nat}
def sat(W:List Bool)(cl:List (List Int)):Bool:=cl.all fun c=>c.any (bDf W)
end
section
variable {I:Int} {Ls As:List (Int×Int)} {Bs Cs:List Int}
theorem never.step{bud v y j:Int}{i:Nat}{ls A R:List Int}{L:List (List Int)}(hi:i<ls.length)(hn:ls.length<=2)(hy:ls.getD i 0=y)(h0:0<=y/\y<=1000000)(hr:(y/2).toNat<R.length)
  (hj:R.getD (y/2).toNat 0=2*j) (hj2:0<=j/\j<=1000000) (hz:y<=1->j=0) (hA:A.length<=10) :
  bAr.l0 bud (ls.length:Int) (i:Int) v A ls [R] L=if litR R y=0 then some (true,0) else bAr.l0 bud (ls.length:Int) ((i+1:Nat):Int) v (if 1<litR R y then A++[litR R y] else A) ls [R] L:=by
 have e:=bF2 (row:=R) h0 hr hj hj2
 have hw:IntKind.wrap .i64 ((i:Int)+1)=((i+1:Nat):Int):=by rw[wr]<;>omega
 have hg:=getI hi
 have hg2:=gdI hi
 rw[hy]at hg hg2
 rw[bDj.eq,bJs h0.1 h0.2,getI hr,Option.bind_some,Option.some.injEq]at e
 rw[bAr.l0_eq,cd,if_pos (by omega),hg,Option.bind_some,Int.toNat_natCast,hg2,Option.bind_some,cd]
 by_cases h1:y>1
 .rw[if_pos h1,show geti [R] 0=some R from rfl,Option.bind_some,show([R]:List (List Int))[Int.toNat 0]?=some R from rfl,Option.bind_some,bJs h0.1 h0.2,getI hr,Option.bind_some,e,ce]
  by_cases h2:litR R y=0
  .rw[if_pos h2,if_pos h2]
  .rw[if_neg h2,if_neg h2,cd]
   by_cases h3:litR R y>1
   .rw[if_pos h3,if_pos (show 1<litR R y from h3),bB1 (by simp;omega),Option.bind_some,hw]
   .rw[if_neg h3,if_neg (show ¬1<litR R y from h3),hw]
 .have hl:litR R y=y:=by
   unfold litR
   rw[hj,hz (by omega)]
   omega
  rw[if_neg h1,hl,ce]
  by_cases h2:y=0
  .rw[if_pos h2,if_pos h2]
  .rw[if_neg h2,if_neg h2,cd,if_neg h1,if_neg (show ¬1<y from h1),hw]
theorem bQc{bud v:Int}{ls A:List Int}{rs L:List (List Int)}:bAr.l0 bud (ls.length:Int) (ls.length:Int) v A ls rs L=(bCi v L A bud).bind fun r=>if r.2=0 then some (!r.1.1,r.2) else some (false,r.2):=by
 rw[bAr.l0_eq,cd,if_neg (by omega)]
 congr 1
 funext r
 rw[ce]
end
section
def lvF(val:Nat->Bool)(x:Int):Bool:=!(val (x/2).toNat==decide (x%2=1))
theorem bG5(val:Nat->Bool)(k:Nat):lvF val (2*(k:Int))=val k:=by
 unfold lvF
 have h1:(2*(k:Int)/2).toNat=k:=by omega
 have h2:decide (2*(k:Int)%2=1)=false:=decide_eq_false (by omega)
 rw[h1,h2];cases val k<;>rfl
theorem bMk(val:Nat->Bool)(k:Nat):lvF val (2*(k:Int)+1) = !val k:=by
 unfold lvF
 have h1:((2*(k:Int)+1)/2).toNat=k:=by omega
 have h2:decide ((2*(k:Int)+1)%2=1)=true:=decide_eq_true (by omega)
 rw[h1,h2];cases val k<;>rfl
theorem bRk{x:Int}(h:0<=x):∃k:Nat,x=2*(k:Int)\/x=2*(k:Int)+1:=⟨(x/2).toNat,by omega⟩
theorem bW2(k:Nat):negI (2*(k:Int))=2*(k:Int)+1:=by unfold negI;rw[if_pos (by omega)]
theorem bZo(k:Nat):negI (2*(k:Int)+1)=2*(k:Int):=by unfold negI;rw[if_neg (by omega)];omega
theorem bHu{val:Nat->Bool}{x:Int}(h:0<=x):lvF val (negI x) = !lvF val x:=by
 obtain⟨k,rfl|rfl⟩:=bRk h
 .rw[bW2,bMk,bG5]
 .rw[bZo,bG5,bMk,Bool.not_not]
def AgF(gate:Nat)(ands:LP)(val:Nat->Bool):Prop:=val 0=false/\∀(k:Nat) (p:Int×Int),ands[k]?=some p->val (gate+k)=(lvF val p.1&&lvF val p.2)
theorem AgF.pre{gate:Nat}{a b:LP}{val:Nat->Bool}(h:AgF gate b val)(hp:a<+:b):AgF gate a val:=by
 obtain⟨r,rfl⟩:=hp
 refine⟨h.1,fun k p hk=>h.2 k p ?_⟩
 rw[List.getElem?_append_left (List.getElem?_eq_some_iff.1 hk).1]
 exact hk
theorem cAh{val:Nat->Bool}(hz:val 0=false){x y v:Int}(hx:0<=x)(hy:0<=y)(h:andS x y=some v):lvF val v=(lvF val x&&lvF val y):=by
 have z0:lvF val 0=false:=by have:=bG5 val 0;rw[hz]at this;exact this
 have z1:lvF val 1=true:=by have:=bMk val 0;rw[hz]at this;exact this
 unfold andS at h
 split at h
 .rename_i hc
  cases h
  rw[z0]
  rcases hc with rfl|rfl|rfl
  .rw[z0];rfl
  .rw[z0,Bool.and_false]
  .rw[bHu hy];cases lvF val y<;>rfl
 .split at h
  .rename_i hc
   cases h
   rcases hc with rfl|rfl
   .rw[z1];rfl
   .rw[Bool.and_self]
  .split at h
   .rename_i hc
    cases h;subst hc
    rw[z1,Bool.and_true]
   .cases h
theorem bXc{gate:Nat}{ands:LP}{val:Nat->Bool}(h:AgF gate ands val){z:Int×Int}{c:Int}(hk:bDr (2*(gate:Int)) ands z=some c):lvF val c=(lvF val z.1&&lvF val z.2):=by
 obtain⟨k,k1,rfl,k3⟩:=bJ5 _ _ _ _ hk
 rw[show 2*(gate:Int)+2*(k:Int)=2*((gate+k:Nat):Int) by omega,bG5]
 exact h.2 k z k3
theorem bNj{val:Nat->Bool}(x y:Int):(lvF val (max x y)&&lvF val (min x y))=(lvF val x&&lvF val y):=by
 rcases Int.le_total x y with h|h
 .rw[Int.max_eq_right h,Int.min_eq_left h,Bool.and_comm]
 .rw[Int.max_eq_left h,Int.min_eq_right h]
theorem bVw(g:Int)(ands:LP)(x y:Int):ands<+:(andB g ands x y).2:=by
 unfold andB
 cases andS x y with
 |some v=>exact List.prefix_refl _
 |none=>
  cases bDr g ands (max x y,min x y) with
  |some c=>exact List.prefix_refl _
  |none=>exact List.prefix_append _ _
theorem bVv{gate:Nat}{ands:LP}{val:Nat->Bool}{x y:Int}(hx:0<=x)(hy:0<=y)(h:AgF gate (andB (2*(gate:Int)) ands x y).2 val):lvF val (andB (2*(gate:Int)) ands x y).1=(lvF val x&&lvF val y):=by
 unfold andB at h ⊢
 cases hs:andS x y with
 |some v=>exact cAh h.1 hx hy hs
 |none=>
  rw[hs]at h
  simp only at h ⊢
  cases hk:bDr (2*(gate:Int)) ands (max x y,min x y) with
  |some c=>
   rw[hk]at h
   rw[bXc h hk]
   exact bNj x y
  |none=>
   rw[hk]at h
   simp only at h ⊢
   rw[show 2*(gate:Int)+2*(ands.length:Int)=2*((gate+ands.length:Nat):Int) by omega,bG5,h.2 ands.length (max x y,min x y) (by simp)]
   exact bNj x y
section
variable {gate N:Nat} {As:LP} {g:List Int}
end
end
section
abbrev U(x:Int):BitVec 64:=BitVec.ofInt 64 x
abbrev w64(x:Int):Prop:=0<=x/\x<18446744073709551616
theorem wrU{x:Int}(h:w64 x):IntKind.wrap .u64 x=x:=by rw[IntKind.wrap_u64];omega
theorem nat_in(b:BitVec 64):w64 (b.toNat:Int):=⟨Int.natCast_nonneg _,by have:=b.isLt;omega⟩
theorem band_u(a b:Int):band .u64 a b=((U a&&&U b).toNat:Int):=wrU (nat_in (U a&&&U b))
theorem U_back{x:Int}(h:w64 x):((U x).toNat:Int)=x:=by
 show((BitVec.ofInt 64 x).toNat:Int)=x
 rw[BitVec.toNat_ofInt]
 omega
section
variable {all:Int} {gate:Nat} {nv:Int->Int->Option (Bool×Int)} {s:List Int}
end
end
section
variable {I:Int} {Ls As:List (Int×Int)} {Bs Cs:List Int}
theorem mul1{n:Nat}(hn:n<=3001):bLa 1 (n:Int)=some (0,(n:Int)):=by
 have b1:band .u64 1 4294967295=1:=by decide
 have b2:band .u64 (n:Int) 4294967295=n:=by
  rw[band_u]
  have h2:(U 4294967295)=BitVec.ofNat 64 (2^32-1):=by decide
  have h1:((U (n:Int))&&&U 4294967295).toNat=n:=by
   rw[BitVec.toNat_and]
   have e1:(U (n:Int)).toNat=n:=by have:=U_back (x:=(n:Int)) (by constructor<;>omega);omega
   have e2:(U 4294967295).toNat=2^32-1:=by decide
   rw[e1,e2,Nat.and_two_pow_sub_one_eq_mod]
   omega
  rw[h1]
 have s0:bshr .u64 1 32=0:=by decide
 have s1:bshr .u64 (n:Int) 32=0:=by
  unfold bshr
  rw[show min (Int.toNat 32) IntKind.u64.bits=32 from rfl,Int.fdiv_eq_ediv_of_nonneg _ (by decide)]
  omega
 have w:IntKind.wrap .u64 (n:Int)=n:=wrU (by constructor<;>omega)
 have z:bshr .u64 0 32=0:=by decide
 have z2:band .u64 0 4294967295=0:=by decide
 have z3:IntKind.wrap .u64 0=0:=by decide
 rw[bLa.eq,bHm.eq,Option.bind_some]
 simp only[b1,b2,s0,s1,Int.one_mul,w,Int.zero_mul,Int.mul_zero,z3,Int.zero_add,Int.add_zero,z,z2]
theorem bN4{g:Int}:∀(l:LP) (k:Nat),okG (g+(k:Int)) l=true->gatB g k l=true
 |[],k,_=>rfl
 |x::r,k,h=>by
  unfold okG at h
  simp only[Bool.and_eq_true,decide_eq_true_eq]at h
  obtain⟨⟨⟨h1,h2⟩,h3⟩,h4⟩:=h
  unfold gatB
  simp only[Bool.and_eq_true,decide_eq_true_eq]
  exact⟨⟨⟨h1,h2⟩,h3⟩,bN4 r (k+1) (by push_cast;rw[show g+((k:Int)+1)=g+(k:Int)+1 by omega];exact h4)⟩
theorem okG_at{g:Int}:∀(l:LP),okG g l=true->∀(k:Nat) (p:Int×Int),l[k]?=some p->0<=p.2/\p.2<=p.1/\p.1/2<g+(k:Int):=fun l h k p hp=>by
 have:=bZ0 (bN4 (g:=g) l 0 (by simpa using h)) k p hp
 simpa using this
theorem bPb{n:Int}{l:List Int}(h:∀x∈l,litN n x):cAx (n+1) l=true:=by
 unfold cAx
 rw[List.all_eq_true]
 intro x hx
 obtain⟨h1,h2⟩:=h x hx
 simp only[Bool.and_eq_true,decide_eq_true_eq]
 omega
theorem bXg{i:Int}:∀(l:List Int) (v:Nat),(∀(j:Nat) (x:Int),l[j]?=some x -> -1<=x/\x<2*((v+j:Nat):Int)/\(0<=x->i<((v+j:Nat):Int)))->givB i v l=true
 |[],v,_=>rfl
 |x::r,v,h=>by
  unfold givB
  simp only[Bool.and_eq_true,Bool.or_eq_true,decide_eq_true_eq]
  obtain⟨h1,h2,h3⟩:=h 0 x rfl
  refine⟨⟨⟨h1,by simpa using h2⟩,?_⟩,bXg r (v+1) (fun j y hy=>by have:=h (j+1) y (by simpa using hy);rw[show v+1+j=v+(j+1) by omega];exact this)⟩
  by_cases h0:x<0
  .exact .inl h0
  .exact .inr (by simpa using h3 (by omega))
def bR5(I:Int)(Ls As:LP)(g:List Int):Prop:=(g.length:Int)=size I Ls As+1/\∀(v:Nat) (x:Int),g[v]?=some x -> -1<=x/\x<2*(v:Int)/\(0<=x->I<(v:Int))
theorem bLy(h:bDd I Ls As Bs Cs)(hc:bA8 I Ls As Bs Cs=0){g:List Int}(hg:bR5 I Ls As g):bTv I Ls As Bs Cs g=true/\BOk g.length (bG3 I Ls) As g:=by
 obtain⟨k1,⟨k2,k3,k4,k5⟩,c1,c2,c3,ho⟩:=bA5 hc
 obtain⟨hl,hg⟩:=hg
 have hgate:((bG3 I Ls:Nat):Int)=1+I+Ls.length:=by unfold bG3;omega
 unfold size at hl
 have hlen:g.length=bG3 I Ls+As.length:=by omega
 have ho':okG ((bG3 I Ls:Nat):Int) As=true:=by rw[hgate];exact ho
 have hN:(g.length:Int)=size I Ls As+1:=by unfold size;omega
 refine⟨?_,hlen,fun v hv=>?_,fun k p hp=>okG_at As ho' k p hp,by omega,by omega,rfl,by omega⟩
 .unfold bTv
  simp only[Bool.and_eq_true,decide_eq_true_eq]
  refine⟨⟨⟨⟨⟨⟨⟨by omega,by omega⟩,by omega⟩,by omega⟩,by omega⟩,by omega⟩,hlen⟩,⟨⟨⟨⟨bN4 As 0 (by simpa using ho'),bXg g 0 (fun j x hx=>by have:=hg j x hx;rw[Nat.zero_add];exact this)⟩,?_⟩,?_⟩,?_⟩⟩
  .rw[hN]
   refine bPb fun x hx=>?_
   obtain⟨y,hy,rfl⟩:=List.mem_map.1 hx
   exact(c3 y hy).1
  .rw[hN];exact bPb c1
  .rw[hN];exact bPb c2
 .have:=hg v (g.getD v 0) (by rw[List.getElem?_eq_getElem hv];simp[List.getD,List.getElem?_eq_getElem hv])
  exact⟨this.2.1,this.1⟩
theorem bPf(h:bDd I Ls As Bs Cs)(hc:bA8 I Ls As Bs Cs=0){g:List Int}(hg:bR5 I Ls As g):bHj I Ls As Bs Cs g=some (bXy I Ls As Bs Cs g):=by
 have hv:=bDt h
 rw[if_pos hc]at hv
 unfold size at hv
 have hask:bBg E (DM E) 48 [bCp I Ls As Bs Cs] [.d (.int .i64),.d (.int .i64)]=some (I+(Ls.length:Int)+(As.length:Int),(0:Int)):=(bS5 (by kernel_rfl)).trans hv
 unfold bHj
 rw[D_hk (k:=bY9) (by kernel_rfl)]
 show bPz (bBg E (DM E)) [bCp I Ls As Bs Cs,.d (.list (.int .i64)) g]=_
 show(match bBg E (DM E) 48 [bCp I Ls As Bs Cs] [.d (.int .i64),.d (.int .i64)]with
  |some r=>if(show Int×Int from r)=((I+(Ls.length:Int)+(As.length:Int)),(0:Int))/\bTv I Ls As Bs Cs g=true then some (bXy I Ls As Bs Cs g) else none
  |none=>none)=_
 rw[hask]
 exact if_pos ⟨rfl,(bLy h hc hg).1⟩
theorem bHq(h:bDd I Ls As Bs Cs)(hc:bA8 I Ls As Bs Cs=0):bGt I Ls As Bs Cs=some (bJ7 I Ls):=by
 obtain⟨k1,⟨k2,k3,k4,k5⟩,_⟩:=bA5 hc
 have hv:=bC4 h
 rw[hc]at hv
 have hask:bBg E (DM E) 32 [bCp I Ls As Bs Cs] [.d (.int .i64)]=some (0:Int):=(bS5 (by kernel_rfl)).trans hv
 unfold bGt
 rw[D_hk (k:=bY4) (by kernel_rfl)]
 show(match bBg E (DM E) 32 [bCp I Ls As Bs Cs] [.d (.int .i64)]with
  |some r=>if(show Int from r)=0/\(0<=I/\I<=1000/\Ls.length<=1000) then some (bJ7 I Ls) else none
  |none=>none)=_
 rw[hask]
 exact if_pos ⟨rfl,k1,k2,by omega⟩
end
section
theorem bSb.loop{a:List Int}(hn:a.length<=100000):∀(n i:Nat),i+n=a.length->bAh.l0 a a (i:Int)=some true
 |0,i,hi=>by rw[bAh.l0_eq,cd,if_neg (by omega)]
 |n+1,i,hi=>by
  have hlt:i<a.length:=by omega
  have hw:IntKind.wrap .i64 ((i:Int)+1)=((i+1:Nat):Int):=by rw[wr]<;>omega
  rw[bAh.l0_eq,cd,if_pos (by omega),bB0 hlt,Option.bind_some,Option.bind_some,cn,if_pos rfl,hw,bSb.loop hn n (i+1) (by omega)]
theorem bJn{a:List Int}(hn:a.length<=100000):bAh a a=some true:=by
 rw[bAh.eq,cn,if_pos rfl]
 exact bSb.loop hn a.length 0 (by omega)
section
variable {I:Int} {Ls As:List (Int×Int)} {Bs Cs:List Int}
theorem bX6(x:Int×Int):(!(x.1==x.1&&x.2==x.2))=false:=by simp
end
end
section
variable {v:Int} {L:List (List Int)} {A:List Int}
theorem bP6{n:Nat}{t s T:List Int}{log:List (List Int)}{l:Int}(hp:bAf L (v+1).toNat t=(T,-1))(hw:bGx A T=some l)(h0:¬isS T l=0):solA v A (n+1) L t s log=solA v A n L (T++[l]) (s++[(T.length:Int)]) log:=by
 rw[solA,hp,if_neg (by omega),hw]
 dsimp only
 rw[if_neg h0]
theorem bT1{n:Nat}{t s T:List Int}{log:List (List Int)}(hp:bAf L (v+1).toNat t=(T,-1))(hw:bGx A T=none)(hx:lf v T=0):solA v A (n+1) L t s log=(true,T,log,log.length):=by
 rw[solA,hp,if_neg (by omega),hw]
 dsimp only
 rw[if_pos hx]
end
section
theorem by_and{t m:Int}(h0:0<=t)(h1:t<=1000000)(m0:0<=m)(m1:m<=1000000):bxor .i64 t (band .i64 m 1)=bKv t m:=by
 have e1:band .i64 m 1=m%2:=and1 m0 m1
 rw[e1]
 exact xorBy h0 h1 m0
theorem bH9{t:Int}(h0:0<=t)(h1:t<=1000000):bxor .i64 t 1=negI t:=by
 have:=xorBy (t:=t) (l:=1) h0 h1 (by omega)
 exact this
def givM(h:Int)(g:List Int)(m:Int):List Int:=g.set (m/2).toNat (bKv h m)
def givS(g:List Int)(c:List Int):List Int:=match c with
 |[]=>g
 |h::ms=>ms.foldl (givM h) g
def givL(n:Nat)(l:LL):List Int:=l.foldl givS (List.replicate n (-1))
def memL(I:Int)(Ls:LP)(m:Int):Prop:=∃(k:Nat) (p:Int×Int),Ls[k]?=some p/\(p.2=0\/p.2=1)/\m=2*(I+1+(k:Int))+p.2
structure WFc(I:Int)(Ls:LP)(c:List Int):Prop where
 ne:c≠[]
 mem:∀m∈c,m=0\/memL I Ls m
 up:c.Pairwise (fun x y=>x/2<y/2)
def totL(l:LL):Nat:=(l.map List.length).sum
def WFl(I:Int)(Ls:LP)(l:LL):Prop:=(∀c∈l,WFc I Ls c)/\totL l<=Ls.length+1
theorem bL8{l:LL}(h:∀c∈l,c≠[]):l.length<=totL l:=by
 induction l with
 |nil=>simp[totL]
 |cons c l ih=>
  have:=ih fun c hc=>h c (List.mem_cons_of_mem _ hc)
  have h2:=List.length_pos_iff.2 (h c (List.mem_cons_self ..))
  simp only[totL,List.map_cons,List.sum_cons,List.length_cons]at *
  omega
theorem bQ4{l:LL}{c:List Int}(h:c∈l):c.length<=totL l:=by
 induction l with
 |nil=>cases h
 |cons d l ih=>
  simp only[totL,List.map_cons,List.sum_cons]at *
  rcases List.mem_cons.1 h with rfl|h
  .omega
  .have:=ih h;omega
section
variable {I:Int} {Ls As:List (Int×Int)} {Bs Cs:List Int}
theorem bGs(hc:bA8 I Ls As Bs Cs=0){m:Int}(h:memL I Ls m):2*(I+1)<=m/\m<=2*(I+Ls.length)+1/\I<m/2:=by
 obtain⟨k,p,hp,h2,rfl⟩:=h
 obtain⟨k1,_⟩:=bA5 hc
 have hk:=(List.getElem?_eq_some_iff.1 hp).1
 omega
theorem bW4(hc:bA8 I Ls As Bs Cs=0){m:Int}(h:m=0\/memL I Ls m):0<=m/\m<=2*size I Ls As+1:=by
 obtain⟨k1,_⟩:=bA5 hc
 unfold size
 rcases h with rfl|h
 .omega
 .have:=bGs hc h;omega
def GP(I:Int)(n:Nat)(g:List Int):Prop:=g.length=n/\∀(v:Nat) (x:Int),g[v]?=some x -> -1<=x/\x<2*(v:Int)/\(0<=x->I<(v:Int))
theorem GP.set{n:Nat}{g:List Int}{h m:Int}(hg:GP I n g)(h0:0<=h)(h1:h/2<m/2)(h2:I<m/2):GP I n (givM h g m):=by
 refine⟨by unfold givM;rw[List.length_set];exact hg.1,fun v x hx=>?_⟩
 unfold givM at hx
 rw[List.getElem?_set]at hx
 split at hx
 .rename_i he
  split at hx
  .cases hx
   unfold bKv negI
   split
   .omega
   .split<;>omega
  .cases hx
 .exact hg.2 v x hx
theorem bNw{h:Int}{ms:List Int}(hw:WFc I Ls (h::ms))(hc:bA8 I Ls As Bs Cs=0):0<=h/\h<=2*size I Ls As+1/\∀m∈ms,memL I Ls m/\h/2<m/2:=by
 have hb:=bW4 hc (hw.mem h (List.mem_cons_self ..))
 refine⟨hb.1,hb.2,fun m hm=>?_⟩
 have hlt:=(List.pairwise_cons.1 hw.up).1 m hm
 refine⟨?_,hlt⟩
 rcases hw.mem m (List.mem_cons_of_mem _ hm) with rfl|h'
 .omega
 .exact h'
theorem GP.cls{n:Nat}(hc:bA8 I Ls As Bs Cs=0){c:List Int}(hw:WFc I Ls c){g:List Int}(hg:GP I n g):GP I n (givS g c):=by
 match c,hw with
 |[],_=>exact hg
 |h::ms,hw=>
  obtain⟨h0,_,hm⟩:=bNw hw hc
  show GP I n (ms.foldl (givM h) g)
  clear hw
  induction ms generalizing g with
  |nil=>exact hg
  |cons m ms ih=>
   have h1:=hm m (List.mem_cons_self ..)
   have h2:=bGs hc h1.1
   exact ih (hg.set h0 h1.2 h2.2.2) fun m' hm'=>hm m' (List.mem_cons_of_mem _ hm')
theorem GP.all{n:Nat}(hc:bA8 I Ls As Bs Cs=0){l:LL}(hw:∀c∈l,WFc I Ls c){g:List Int}(hg:GP I n g):GP I n (l.foldl givS g):=by
 induction l generalizing g with
 |nil=>exact hg
 |cons c l ih=>exact ih (fun c' hc'=>hw c' (List.mem_cons_of_mem _ hc')) (hg.cls hc (hw c (List.mem_cons_self ..)))
theorem GP.none{n:Nat}:GP I n (List.replicate n (-1)):=by
 refine⟨List.length_replicate ..,fun v x hx=>?_⟩
 have hv:v<n:=by simpa using(List.getElem?_eq_some_iff.1 hx).1
 rw[List.getElem?_replicate_of_lt hv]at hx
 cases hx
 omega
theorem bY5(hc:bA8 I Ls As Bs Cs=0){l:LL}(hw:∀c∈l,WFc I Ls c):bR5 I Ls As (givL ((size I Ls As).toNat+1) l):=by
 obtain⟨k1,_⟩:=bA5 hc
 have h:=GP.all hc hw (GP.none (I:=I) (n:=(size I Ls As).toNat+1))
 refine⟨?_,h.2⟩
 have e:(givL ((size I Ls As).toNat+1) l).length=(size I Ls As).toNat+1:=h.1
 rw[e]
 unfold size
 omega
theorem bQd.loop1(hc:bA8 I Ls As Bs Cs=0){h:Int}{ms:List Int}{l:LL}{x20 x21 b1:Int}{o3 o4:LP}{o5 o6:List Int}(h0:0<=h/\h<=1000000)(hms:ms.length<=100000){n:Nat}(hn:n<=100000)(hm:∀m∈ms,0<=m/\m/2<(n:Int)):∀(k i:Nat) (g:List Int),i+k=ms.length->g.length=n ->
  bAp.l1 (h::ms) l x20 x21 ms (ms.length:Int) (i:Int) I Ls As Bs Cs b1 g o3 o4 o5 o6=bAp.l0 l x20 (IntKind.wrap .i64 (x21+1)) I Ls As Bs Cs b1 ((ms.drop i).foldl (givM h) g) o3 o4 o5 o6
 |0,i,g,hi,hg=>by
  rw[bAp.l1_eq,cd,if_neg (by omega),List.drop_of_length_le (by omega)]
  rfl
 |k+1,i,g,hi,hg=>by
  have hlt:i<ms.length:=by omega
  have hw:IntKind.wrap .i64 ((i:Int)+1)=((i+1:Nat):Int):=by rw[wr]<;>omega
  have hx:=hm _ (List.getElem_mem hlt)
  have hl:(ms[i]/2).toNat<g.length:=by omega
  rw[bAp.l1_eq,cd,if_pos (by omega),bB0 hlt,Option.bind_some,show geti (h::ms) 0=some h from rfl,Option.bind_some,bJs hx.1 (by omega),bB0 hl,Option.bind_some,Int.toNat_natCast,List.getElem?_eq_getElem hl,Option.bind_some,by_and h0.1 h0.2 hx.1 (by omega),hw]
  rw[bQd.loop1 hc h0 hms hn hm k (i+1) _ (by omega) (by rw[List.length_set];exact hg)]
  congr 1
  rw[show ms.drop i=ms[i]::ms.drop (i+1) from(List.getElem_cons_drop ..).symm,List.foldl_cons]
  rfl
theorem bP2{α:Type}{h:α}{ms:List α}:subl (h::ms) 1 (List.length (h::ms):Int)=some ms:=by
 unfold subl
 rw[if_pos (by simp only[List.length_cons];omega)]
 simp
theorem bQd.loop0(hc:bA8 I Ls As Bs Cs=0){l:LL}(hw:WFl I Ls l){b1:Int}{o3 o4:LP}{o5 o6:List Int}{n:Nat}(hn:(n:Int)=size I Ls As+1):∀(k i:Nat) (g:List Int),i+k=l.length->g.length=n ->
  bAp.l0 l (l.length:Int) (i:Int) I Ls As Bs Cs b1 g o3 o4 o5 o6=(bHj I Ls As Bs Cs ((l.drop i).foldl givS g)).bind fun r4_=>some (r4_.1.1,(r4_.1.2.1,(r4_.1.2.2.1,(r4_.1.2.2.2.1,r4_.1.2.2.2.2))))
 |0,i,g,hi,hg=>by
  rw[bAp.l0_eq,cd,if_neg (by omega),List.drop_of_length_le (by omega)]
  rfl
 |k+1,i,g,hi,hg=>by
  obtain⟨k1,⟨k2,k3,k4,k5⟩,_⟩:=bA5 hc
  have hlt:i<l.length:=by omega
  have hll:=Nat.le_trans (bL8 fun c hc=>(hw.1 c hc).ne) hw.2
  have hw1:IntKind.wrap .i64 ((i:Int)+1)=((i+1:Nat):Int):=by rw[wr]<;>omega
  have hcl:=hw.1 _ (List.getElem_mem hlt)
  have htot:=Nat.le_trans (bQ4 (List.getElem_mem hlt)) hw.2
  have hd:l.drop i=l[i]::l.drop (i+1):=(List.getElem_cons_drop ..).symm
  rw[bAp.l0_eq,cd,if_pos (by omega),bB0 hlt,Option.bind_some,hd,List.foldl_cons]
  generalize l[i]=c at hcl htot ⊢
  match c,hcl,htot with
  |[],hcl,_=>exact absurd rfl hcl.ne
  |h::ms,hcl,htot=>
   obtain⟨h0,h1,hm⟩:=bNw hcl hc
   have hs1:size I Ls As<=1000:=by unfold size;omega
   rw[bP2,Option.bind_some]
   rw[List.length_cons]at htot
   have g1:=bQd.loop1 (Bs:=Bs) (Cs:=Cs) hc (h:=h) (ms:=ms) (l:=l) (x20:=(l.length:Int)) (x21:=(i:Int)) (b1:=b1) (o3:=o3) (o4:=o4) (o5:=o5) (o6:=o6) ⟨h0,by omega⟩ (by omega) (n:=n) (by omega) (fun m hm'=>by
    have:=bGs hc (hm m hm').1
    unfold size at hn
    omega) ms.length 0 g (by omega) hg
   rw[show((0:Nat):Int)=0 from rfl,List.drop_zero,hw1]at g1
   rw[g1]
   refine bQd.loop0 hc hw hn k (i+1) _ (by omega) ?_
   clear g1 hm hcl htot
   induction ms generalizing g with
   |nil=>exact hg
   |cons m ms ih=>exact ih (givM h g m) (by unfold givM;rw[List.length_set];exact hg)
def lB(I:Int)(Ls As:LP)(Bs Cs:List Int)(l:LL):Circ:=(bXy I Ls As Bs Cs (givL ((size I Ls As).toNat+1) l)).1
theorem rep_eq{n:Nat}(hn:1<=n/\n<=3001):bC6 [-1] (n:Int)=some (List.replicate n (-1)):=by
 have hask:bBg E (DM E) 69 [.d (.int .u64) (1:Int),.d (.int .u64) (n:Int)] [.d (.int .u64),.d (.int .u64)]=some ((0:Int),(n:Int)):=(bS5 (by kernel_rfl)).trans (mul1 hn.2)
 unfold bC6
 rw[D_hk (k:=repHK) (by kernel_rfl)]
 show(match bBg E (DM E) 69 [.d (.int .u64) (1:Int),.d (.int .u64) (n:Int)] [.d (.int .u64),.d (.int .u64)]with
  |some r=>if([-1]:List Int)=[-1]/\1<=(n:Int)/\(n:Int)<=3001/\(show Int×Int from r)=((0:Int),(n:Int)) then some (List.replicate (n:Int).toNat (-1)) else none
  |none=>none)=_
 rw[hask]
 exact(if_pos ⟨rfl,by omega,by omega,rfl⟩).trans (by rw[Int.toNat_natCast])
theorem bPc(h:bDd I Ls As Bs Cs)(hc:bA8 I Ls As Bs Cs=0){l:LL}(hw:WFl I Ls l):bAp I Ls As Bs Cs (size I Ls As) l=some (lB I Ls As Bs Cs l):=by
 obtain⟨k1,⟨k2,k3,k4,k5⟩,_⟩:=bA5 hc
 have hs1:0<=size I Ls As/\size I Ls As<=1000:=by unfold size;omega
 have hn:IntKind.wrap .i64 (size I Ls As+1)=(((size I Ls As).toNat+1:Nat):Int):=by rw[wr]<;>omega
 rw[bAp.eq,hn,rep_eq ⟨by omega,by omega⟩,Option.bind_some]
 have:=bQd.loop0 (b1:=0) (o3:=[]) (o4:=[]) (o5:=[]) (o6:=[]) hc hw (n:=(size I Ls As).toNat+1) (by omega) l.length 0 (List.replicate ((size I Ls As).toNat+1) (-1)) (by omega) (by simp)
 rw[show((0:Nat):Int)=0 from rfl,List.drop_zero]at this
 rw[this]
 have hb:=bPf h hc (bY5 hc hw.1)
 unfold givL at hb
 rw[hb,Option.bind_some]
 rfl
end
end
section
variable {I:Int} {Ls As:List (Int×Int)} {Bs Cs:List Int}
theorem bZ5(hc:bA8 I Ls As Bs Cs=0):bYg I Ls=true:=by
 obtain⟨k1,⟨k2,k3,k4,k5⟩,c1,c2,c3,_⟩:=bA5 hc
 unfold bYg
 simp only[Bool.and_eq_true,decide_eq_true_eq,List.all_eq_true]
 exact⟨⟨⟨k1,k2⟩,by omega⟩,fun x hx=>(c3 x hx).2⟩
theorem bVu{n:Int}{ll:LL}:askB (bBg E (DM E)) I Ls As Bs Cs n ll=(bAp I Ls As Bs Cs n ll).bind fun x=>if x.2.1.length<=1000 then some x else none:=by
 have hask:bBg E (DM E) 49 [bCp I Ls As Bs Cs,.d (.int .i64) n,.d (.list (.list (.int .i64))) ll] [cDv]=bAp I Ls As Bs Cs n ll:=bS5 (by kernel_rfl)
 unfold askB
 rw[hask]
 cases bAp I Ls As Bs Cs n ll<;>rfl
theorem bFw{b y z:Int}{x:Circ}:askE (bBg E (DM E)) b x y z=bBy x.1 x.2.1 x.2.2.1 x.2.2.2.1 x.2.2.2.2 y z b:=by
 unfold askE
 exact bS5 (by kernel_rfl)
theorem find_eq(h:bDd I Ls As Bs Cs)(hc:bA8 I Ls As Bs Cs=0){b:Int}(hb:0<=b/\b<=100000):
  bBn I Ls As Bs Cs b=endF (fndF (askB (bBg E (DM E)) I Ls As Bs Cs (size I Ls As)) (askE (bBg E (DM E)) b) I (Ls.length+2) [iniF I Ls Ls.length]):=by
 have hv:=bDt h
 rw[if_pos hc]at hv
 have hask:bBg E (DM E) 48 [bCp I Ls As Bs Cs] [.d (.int .i64),.d (.int .i64)]=some (size I Ls As,(0:Int)):=(bS5 (by kernel_rfl)).trans hv
 unfold bBn
 rw[D_hk (k:=bYp) (by kernel_rfl)]
 show(match bBg E (DM E) 48 [bCp I Ls As Bs Cs] [.d (.int .i64),.d (.int .i64)]with
  |some r=>if(show Int×Int from r).2≠0 then some ([],bSz,(show Int×Int from r).2)
   else if b<0\/100000<b then some ([],bSz,2)
   else if bYg I Ls=true then endF (fndF (askB (bBg E (DM E)) I Ls As Bs Cs (show Int×Int from r).1) (askE (bBg E (DM E)) b) I (List.length (α:=Int×Int) Ls+2) [iniF I Ls (List.length (α:=Int×Int) Ls)]) else none
  |none=>none)=_
 rw[hask]
 exact(if_neg (by simp)).trans ((if_neg (by omega)).trans (if_pos (bZ5 hc)))
theorem find_bad(h:bDd I Ls As Bs Cs){b:Int}(hc:bA8 I Ls As Bs Cs≠0):bBn I Ls As Bs Cs b=some ([],bSz,bA8 I Ls As Bs Cs):=by
 have hv:=bDt h
 rw[if_neg hc]at hv
 have hask:bBg E (DM E) 48 [bCp I Ls As Bs Cs] [.d (.int .i64),.d (.int .i64)]=some ((0:Int),bA8 I Ls As Bs Cs):=(bS5 (by kernel_rfl)).trans hv
 unfold bBn
 rw[D_hk (k:=bYp) (by kernel_rfl)]
 show(match bBg E (DM E) 48 [bCp I Ls As Bs Cs] [.d (.int .i64),.d (.int .i64)]with
  |some r=>if(show Int×Int from r).2≠0 then some ([],bSz,(show Int×Int from r).2)
   else if b<0\/100000<b then some ([],bSz,2)
   else if bYg I Ls=true then endF (fndF (askB (bBg E (DM E)) I Ls As Bs Cs (show Int×Int from r).1) (askE (bBg E (DM E)) b) I (List.length (α:=Int×Int) Ls+2) [iniF I Ls (List.length (α:=Int×Int) Ls)]) else none
  |none=>none)=_
 rw[hask]
 exact if_pos hc
theorem find_arg(h:bDd I Ls As Bs Cs)(hc:bA8 I Ls As Bs Cs=0){b:Int}(hb:b<0\/100000<b):bBn I Ls As Bs Cs b=some ([],bSz,2):=by
 have hv:=bDt h
 rw[if_pos hc]at hv
 have hask:bBg E (DM E) 48 [bCp I Ls As Bs Cs] [.d (.int .i64),.d (.int .i64)]=some (size I Ls As,(0:Int)):=(bS5 (by kernel_rfl)).trans hv
 unfold bBn
 rw[D_hk (k:=bYp) (by kernel_rfl)]
 show(match bBg E (DM E) 48 [bCp I Ls As Bs Cs] [.d (.int .i64),.d (.int .i64)]with
  |some r=>if(show Int×Int from r).2≠0 then some ([],bSz,(show Int×Int from r).2)
   else if b<0\/100000<b then some ([],bSz,2)
   else if bYg I Ls=true then endF (fndF (askB (bBg E (DM E)) I Ls As Bs Cs (show Int×Int from r).1) (askE (bBg E (DM E)) b) I (List.length (α:=Int×Int) Ls+2) [iniF I Ls (List.length (α:=Int×Int) Ls)]) else none
  |none=>none)=_
 rw[hask]
 exact(if_neg (by simp)).trans (if_pos hb)
end
section
def andL(n:Nat)(A:LP)(x y:Int):Int×LP:=andB (2*((n+1:Nat):Int)) A x y
theorem bQq.loop{A:LP}{p q:Int}(hn:A.length<=100000):∀(k i:Nat),i+k=A.length->∃r,bFc.l0 A (A.length:Int) (i:Int) p q=some r/\((r = -1/\∀G,bDr G (A.drop i) (p,q)=none)\/∃j:Nat,r=((i+j:Nat):Int)/\∀G,bDr G (A.drop i) (p,q)=some (G+2*(j:Int)))
 |0,i,hi=>by
  rw[bFc.l0_eq,cd,if_neg (by omega),List.drop_of_length_le (by omega)]
  exact⟨_,rfl,.inl ⟨rfl,fun _=>rfl⟩⟩
 |k+1,i,hi=>by
  have hlt:i<A.length:=by omega
  have hw:IntKind.wrap .i64 ((i:Int)+1)=((i+1:Nat):Int):=by rw[wr]<;>omega
  have hd:A.drop i=A[i]::A.drop (i+1):=(List.getElem_cons_drop ..).symm
  rw[bFc.l0_eq,cd,if_pos (by omega),bB0 hlt,Option.bind_some,hd,hw]
  by_cases hE:(p,q)=A[i]
  .have h1:(p==A[i].1&&q==A[i].2)=true:=by rw[<-hE];simp
   rw[h1,ct]
   refine⟨_,rfl,.inr ⟨0,by simp,fun G=>?_⟩⟩
   simp only[bDr,if_pos hE]
   simp
  .have h1:(p==A[i].1&&q==A[i].2)=false:=by
    rw[Bool.eq_false_iff]
    intro h
    rw[Bool.and_eq_true,beq_iff_eq,beq_iff_eq]at h
    exact hE (Prod.ext h.1 h.2)
   rw[h1,cf]
   obtain⟨r,g1,g2⟩:=bQq.loop (p:=p) (q:=q) hn k (i+1) (by omega)
   refine⟨r,g1,?_⟩
   rcases g2 with⟨g2,g3⟩|⟨j,g2,g3⟩
   .exact .inl ⟨g2,fun G=>by simp only[bDr,if_neg hE];exact g3 _⟩
   .exact .inr ⟨j+1,by rw[g2];congr 1;omega,fun G=>by simp only[bDr,if_neg hE];rw[g3];congr 1;push_cast;omega⟩
theorem max_if(x y:Int):(if x<y then y else x)=max x y:=by
 by_cases h:x<y
 .rw[if_pos h,Int.max_eq_right (by omega)]
 .rw[if_neg h,Int.max_eq_left (by omega)]
theorem min_if(x y:Int):(if y<x then y else x)=min x y:=by
 by_cases h:y<x
 .rw[if_pos h,Int.min_eq_right (by omega)]
 .rw[if_neg h,Int.min_eq_left (by omega)]
theorem bD1{n:Nat}(hn:n<=1000){A:LP}(hA:A.length<=1000){lit x y:Int}(hx:0<=x/\x<=100000)(hy:0<=y/\y<=100000):bA6 (n:Int) A lit x y=some ((andL n A x y).1,((n:Int),((andL n A x y).2,lit))):=by
 rw[bA6.eq,bH9 hy.1 (by omega),ce]
 by_cases h1:x=0
 .have ea:andL n A x y=(0,A):=by unfold andL andB andS;rw[if_pos (.inl h1)]
  rw[if_pos h1,ea]
 rw[if_neg h1,ce]
 by_cases h2:y=0
 .have ea:andL n A x y=(0,A):=by unfold andL andB andS;rw[if_pos (.inr (.inl h2))]
  rw[if_pos h2,ea]
 rw[if_neg h2,ce]
 by_cases h3:x=negI y
 .have ea:andL n A x y=(0,A):=by unfold andL andB andS;rw[if_pos (.inr (.inr h3))]
  rw[if_pos h3,ea]
 have n1:¬(x=0\/y=0\/x=negI y):=fun h=>by
  rcases h with h|h|h
  .exact h1 h
  .exact h2 h
  .exact h3 h
 rw[if_neg h3,ce]
 by_cases h4:x=1
 .have ea:andL n A x y=(y,A):=by unfold andL andB andS;rw[if_neg n1,if_pos (.inl h4)]
  rw[if_pos h4,ea]
 rw[if_neg h4,ce]
 by_cases h5:x=y
 .have ea:andL n A x y=(y,A):=by unfold andL andB andS;rw[if_neg n1,if_pos (.inr h5)]
  rw[if_pos h5,ea]
 have n2:¬(x=1\/x=y):=fun h=>by
  rcases h with h|h
  .exact h4 h
  .exact h5 h
 rw[if_neg h5,ce]
 by_cases h6:y=1
 .have ea:andL n A x y=(x,A):=by unfold andL andB andS;rw[if_neg n1,if_neg n2,if_pos h6]
  rw[if_pos h6,ea]
 have eb:andL n A x y=match bDr (2*((n+1:Nat):Int)) A (max x y,min x y) with
  |some c=>(c,A)
  |none=>(2*((n+1:Nat):Int)+2*(A.length:Int),A++[(max x y,min x y)]):=by
  unfold andL andB andS
  rw[if_neg n1,if_neg n2,if_neg h6]
  rfl
 rw[if_neg h6,max_if,min_if,bFc.eq,eb]
 obtain⟨r,g1,g2⟩:=bQq.loop (A:=A) (p:=max x y) (q:=min x y) (by omega) A.length 0 (by omega)
 rw[show((0:Nat):Int)=0 from rfl]at g1
 rw[g1,Option.bind_some,cd]
 have w1:IntKind.wrap .i64 ((n:Int)+1)=(n:Int)+1:=by rw[wr]<;>omega
 rcases g2 with⟨rfl,g3⟩|⟨j,rfl,g3⟩
 .rw[List.drop_zero]at g3
  have w2:IntKind.wrap .i64 ((n:Int)+1+(A.length:Int))=(n:Int)+1+(A.length:Int):=by rw[wr]<;>omega
  have w3:IntKind.wrap .i64 (2*((n:Int)+1+(A.length:Int)))=2*((n+1:Nat):Int)+2*(A.length:Int):=by rw[wr]<;>omega
  rw[if_pos (by omega),bB1 (by simp only[List.length_singleton];omega),Option.bind_some,w1,w2,w3]
  simp only[g3]
 .rw[List.drop_zero]at g3
  have hj:j<A.length:=by
   obtain⟨k,k1,k2,_⟩:=bJ5 _ _ _ _ (g3 0)
   omega
  have w2:IntKind.wrap .i64 ((n:Int)+1+((0+j:Nat):Int))=(n:Int)+1+(j:Int):=by rw[wr]<;>omega
  have w3:IntKind.wrap .i64 (2*((n:Int)+1+(j:Int)))=2*((n+1:Nat):Int)+2*(j:Int):=by rw[wr]<;>omega
  rw[if_neg (by omega),w1,w2,w3]
  simp only[g3]
def FO(n:Nat)(A:LP):Prop:=∀(k:Nat) (p:Int×Int),A[k]?=some p->0<=p.2/\p.2<=p.1/\p.1/2<((n+1+k:Nat):Int)
def litF(n:Nat)(A:LP)(x:Int):Prop:=0<=x/\x/2<((n+1+A.length:Nat):Int)
theorem litF.up{n:Nat}{A B:LP}{x:Int}(h:litF n A x)(hp:A<+:B):litF n B x:=by
 have:=hp.length_le
 exact⟨h.1,by have:=h.2;omega⟩
theorem litF.neg{n:Nat}{A:LP}{x:Int}(h:litF n A x):litF n A (negI x):=by
 unfold litF negI at *
 split<;>omega
theorem bJc{n:Nat}{A:LP}(h:FO n A){x y:Int}(hx:litF n A x)(hy:litF n A y):FO n (andL n A x y).2/\litF n (andL n A x y).2 (andL n A x y).1/\A<+:(andL n A x y).2/\(andL n A x y).2.length<=A.length+1 /\
  ∀val,AgF (n+1) (andL n A x y).2 val->lvF val (andL n A x y).1=(lvF val x&&lvF val y):=by
 refine⟨?_,?_,bVw _ _ _ _,?_,fun val hv=>bVv hx.1 hy.1 hv⟩
 all_goals unfold andL andB
 all_goals cases hs:andS x y with
 |some v=>?_
 |none=>?_
 .exact h
 .simp only
  cases hk:bDr (2*((n+1:Nat):Int)) A (max x y,min x y) with
  |some c=>exact h
  |none=>
   intro k p hp
   simp only at hp
   rw[List.getElem?_append]at hp
   split at hp
   .exact h k p hp
   .rename_i hlt
    have hk0:k-A.length=0:=by
     rcases Nat.eq_zero_or_pos (k-A.length) with h0|h0
     .exact h0
     .rw[List.getElem?_eq_none (by simp;omega)]at hp;cases hp
    rw[hk0]at hp
    cases hp
    have q1:=hx.1;have q2:=hx.2;have q3:=hy.1;have q4:=hy.2
    have hkE:k=A.length:=by omega
    subst hkE
    dsimp only
    rcases Int.le_total x y with hle|hle
    .rw[Int.max_eq_right hle,Int.min_eq_left hle];omega
    .rw[Int.max_eq_left hle,Int.min_eq_right hle];omega
 .unfold andS at hs
  split at hs
  .cases hs;exact⟨by show(0:Int)<=0;omega,by show(0:Int)/2<((n+1+A.length:Nat):Int);omega⟩
  .split at hs
   .cases hs;exact hy
   .split at hs
    .cases hs;exact hx
    .cases hs
 .simp only
  cases hk:bDr (2*((n+1:Nat):Int)) A (max x y,min x y) with
  |some c=>
   obtain⟨k,k1,k2,_⟩:=bJ5 _ _ _ _ hk
   exact⟨by simp only;omega,by simp only;omega⟩
  |none=>exact⟨by simp only;omega,by simp only[List.length_append,List.length_singleton];omega⟩
 .simp only;omega
 .simp only
  cases hk:bDr (2*((n+1:Nat):Int)) A (max x y,min x y) with
  |some c=>simp only;omega
  |none=>simp only[List.length_append,List.length_singleton];omega
def facM(I:Int)(n:Nat)(h:Int)(st:List Int×LP)(m:Int):List Int×LP:=
 if h=0 then(st.1++[negI (m-2*I)],st.2) else
 (st.1++[(andL n (andL n (andL n st.2 (m-2*I) (negI (h-2*I))).2 (h-2*I) (negI (m-2*I))).2 (negI (andL n st.2 (m-2*I) (negI (h-2*I))).1) (negI (andL n (andL n st.2 (m-2*I) (negI (h-2*I))).2 (h-2*I) (negI (m-2*I))).1)).1],
  (andL n (andL n (andL n st.2 (m-2*I) (negI (h-2*I))).2 (h-2*I) (negI (m-2*I))).2 (negI (andL n st.2 (m-2*I) (negI (h-2*I))).1) (negI (andL n (andL n st.2 (m-2*I) (negI (h-2*I))).2 (h-2*I) (negI (m-2*I))).1)).2)
def facS(I:Int)(n:Nat)(st:List Int×LP)(c:List Int):List Int×LP:=match c with
 |[]=>st
 |h::ms=>ms.foldl (facM I n h) st
def facE(n:Nat)(s:Int×LP)(a:Int):Int×LP:=andL n s.2 s.1 a
def facP(I:Int)(n:Nat)(l:LL):Int×LP:=(l.foldl (facS I n) ([],[])).1.foldl (facE n) (1,(l.foldl (facS I n) ([],[])).2)
structure FS(n:Nat)(st:List Int×LP)(t:Nat):Prop where
 fo:FO n st.2
 lits:∀a∈st.1,litF n st.2 a
 few:st.2.length<=3*t/\st.1.length<=t
def mvF(val:Nat->Bool)(I m:Int):Bool:=if m=0 then false else lvF val (m-2*I)
theorem bXm{I:Int}{n t:Nat}{st:List Int×LP}(hs:FS n st t){h m:Int}(hm:2<=m-2*I/\m-2*I<=2*(n:Int)+1)(hh:h=0\/(2<=h-2*I/\h-2*I<=2*(n:Int)+1))(hm0:m≠0):
  FS n (facM I n h st m) (t+1)/\st.2<+:(facM I n h st m).2/\∃a,(facM I n h st m).1=st.1++[a]/\∀val,AgF (n+1) (facM I n h st m).2 val->lvF val a=(mvF val I m==mvF val I h):=by
 have hx:litF n st.2 (m-2*I):=⟨by omega,by omega⟩
 unfold facM
 by_cases h0:h=0
 .rw[if_pos h0]
  refine⟨⟨hs.fo,fun a ha=>?_,by have:=hs.few;simp only[List.length_append,List.length_singleton];omega⟩,List.prefix_refl _,_,rfl,fun val hv=>?_⟩
  .rcases List.mem_append.1 ha with ha|ha
   .exact hs.lits a ha
   .rw[List.mem_singleton]at ha;subst ha;exact hx.neg
  .rw[bHu hx.1]
   unfold mvF
   rw[if_neg hm0,if_pos h0]
   cases lvF val (m-2*I)<;>rfl
 .rw[if_neg h0]
  have hh':2<=h-2*I/\h-2*I<=2*(n:Int)+1:=by
   rcases hh with h'|h'
   .exact absurd h' h0
   .exact h'
  have hy:litF n st.2 (h-2*I):=⟨by omega,by omega⟩
  obtain⟨a1,a2,a3,a4,a5⟩:=bJc hs.fo hx hy.neg
  generalize hr1:andL n st.2 (m-2*I) (negI (h-2*I))=r1 at a1 a2 a3 a4 a5 ⊢
  obtain⟨b1,b2,b3,b4,b5⟩:=bJc a1 (hy.up a3) (hx.neg.up a3)
  generalize hr2:andL n r1.2 (h-2*I) (negI (m-2*I))=r2 at b1 b2 b3 b4 b5 ⊢
  obtain⟨c1,c2,c3,c4,c5⟩:=bJc b1 (a2.up b3).neg b2.neg
  generalize hr3:andL n r2.2 (negI r1.1) (negI r2.1)=r3 at c1 c2 c3 c4 c5 ⊢
  have hp:st.2<+:r3.2:=(a3.trans b3).trans c3
  refine⟨⟨c1,fun a ha=>?_,by have:=hs.few;simp only[List.length_append,List.length_singleton];omega⟩,hp,_,rfl,fun val hv=>?_⟩
  .rcases List.mem_append.1 ha with ha|ha
   .exact(hs.lits a ha).up hp
   .rw[List.mem_singleton]at ha;subst ha;exact c2
  .rw[c5 val hv,bHu a2.1,bHu b2.1,a5 val (hv.pre (b3.trans c3)),b5 val (hv.pre c3),bHu hy.1,bHu hx.1]
   unfold mvF
   rw[if_neg hm0,if_neg h0]
   cases lvF val (m-2*I)<;>cases lvF val (h-2*I)<;>rfl
section
variable {I:Int} {Ls As:List (Int×Int)} {Bs Cs:List Int}
def eqM(val:Nat->Bool)(I:Int)(c:List Int):Prop:=match c with
 |[]=>True
 |h::ms=>∀m∈ms,mvF val I m=mvF val I h
theorem bV2(hc:bA8 I Ls As Bs Cs=0){h:Int}{ms:List Int}(hw:WFc I Ls (h::ms)):(h=0\/(2<=h-2*I/\h-2*I<=2*(Ls.length:Int)+1))/\∀m∈ms,(2<=m-2*I/\m-2*I<=2*(Ls.length:Int)+1)/\m≠0:=by
 obtain⟨k1,_⟩:=bA5 hc
 obtain⟨_,_,hm⟩:=bNw hw hc
 refine⟨?_,fun m hm'=>?_⟩
 .rcases hw.mem h (List.mem_cons_self ..) with h0|h0
  .exact .inl h0
  .have:=bGs hc h0;exact .inr (by omega)
 .have:=bGs hc (hm m hm').1;omega
theorem bXk(hc:bA8 I Ls As Bs Cs=0){c:List Int}(hw:WFc I Ls c){st:List Int×LP}{t:Nat}(hs:FS Ls.length st t):
  FS Ls.length (facS I Ls.length st c) (t+c.length)/\st.2<+:(facS I Ls.length st c).2/\∃es,(facS I Ls.length st c).1=st.1++es/\∀val,AgF (Ls.length+1) (facS I Ls.length st c).2 val->((∀a∈es,lvF val a=true)↔eqM val I c):=by
 match c,hw with
 |[],hw=>exact absurd rfl hw.ne
 |h::ms,hw=>
  obtain⟨hh,hm⟩:=bV2 hc hw
  have key:∀(ms:List Int),(∀m∈ms,(2<=m-2*I/\m-2*I<=2*(Ls.length:Int)+1)/\m≠0)->∀(st:List Int×LP) (t:Nat),FS Ls.length st t->FS Ls.length (ms.foldl (facM I Ls.length h) st) (t+ms.length)/\st.2<+:(ms.foldl (facM I Ls.length h) st).2/\∃es,(ms.foldl (facM I Ls.length h) st).1=st.1++es/\∀val,AgF (Ls.length+1) (ms.foldl (facM I Ls.length h) st).2 val->((∀a∈es,lvF val a=true)↔∀m∈ms,mvF val I m=mvF val I h):=by
   intro ms
   induction ms with
   |nil=>intro _ st t hs;exact⟨hs,List.prefix_refl _,[],by simp,fun val _=>by simp⟩
   |cons m ms ih=>
    intro hm st t hs
    have h1:=hm m (List.mem_cons_self ..)
    obtain⟨g1,g2,a,g3,g4⟩:=bXm hs h1.1 hh h1.2
    obtain⟨i1,i2,es,i3,i4⟩:=ih (fun m' hm'=>hm m' (List.mem_cons_of_mem _ hm')) _ _ g1
    rw[List.foldl_cons]
    refine⟨?_,g2.trans i2,a::es,by rw[i3,g3];simp,fun val hv=>?_⟩
    .rw[List.length_cons,show t+(ms.length+1)=t+1+ms.length by omega];exact i1
    .have e1:=g4 val (hv.pre i2)
     have e2:=i4 val hv
     simp only[List.forall_mem_cons,e2,e1,beq_iff_eq]
  obtain⟨g1,g2,es,g3,g4⟩:=key ms hm st t hs
  refine⟨⟨g1.fo,g1.lits,by have:=g1.few;simp only[List.length_cons];exact⟨by show(ms.foldl (facM I Ls.length h) st).2.length<=_;omega,by show(ms.foldl (facM I Ls.length h) st).1.length<=_;omega⟩⟩,g2,es,g3,g4⟩
theorem bXo(hc:bA8 I Ls As Bs Cs=0):∀(l:LL),(∀c∈l,WFc I Ls c)->∀(st:List Int×LP) (t:Nat),FS Ls.length st t ->
  FS Ls.length (l.foldl (facS I Ls.length) st) (t+totL l)/\st.2<+:(l.foldl (facS I Ls.length) st).2/\∃es,(l.foldl (facS I Ls.length) st).1=st.1++es/\∀val,AgF (Ls.length+1) (l.foldl (facS I Ls.length) st).2 val->((∀a∈es,lvF val a=true)↔∀c∈l,eqM val I c):=by
 intro l
 induction l with
 |nil=>intro _ st t hs;exact⟨hs,List.prefix_refl _,[],by simp,fun val _=>by simp⟩
 |cons c l ih=>
  intro hw st t hs
  obtain⟨g1,g2,es,g3,g4⟩:=bXk hc (hw c (List.mem_cons_self ..)) hs
  obtain⟨i1,i2,bs,i3,i4⟩:=ih (fun c' hc'=>hw c' (List.mem_cons_of_mem _ hc')) _ _ g1
  rw[List.foldl_cons]
  refine⟨?_,g2.trans i2,es++bs,by rw[i3,g3];simp,fun val hv=>?_⟩
  .have e:t+totL (c::l)=t+c.length+totL l:=by simp only[totL,List.map_cons,List.sum_cons];omega
   rw[e];exact i1
  .have e1:=g4 val (hv.pre i2)
   have e2:=i4 val hv
   simp only[List.forall_mem_cons,List.forall_mem_append,e1,e2]
theorem bXn{n:Nat}:∀(es:List Int) (s:Int×LP),FO n s.2->litF n s.2 s.1->(∀a∈es,litF n s.2 a) ->
  FO n (es.foldl (facE n) s).2/\litF n (es.foldl (facE n) s).2 (es.foldl (facE n) s).1/\s.2<+:(es.foldl (facE n) s).2/\(es.foldl (facE n) s).2.length<=s.2.length+es.length/\∀val,AgF (n+1) (es.foldl (facE n) s).2 val->(lvF val (es.foldl (facE n) s).1=true↔lvF val s.1=true/\∀a∈es,lvF val a=true)
 |[],s,h1,h2,h3=>⟨h1,h2,List.prefix_refl _,by simp,fun val _=>by simp⟩
 |a::es,s,h1,h2,h3=>by
  obtain⟨a1,a2,a3,a4,a5⟩:=bJc h1 h2 (h3 a (List.mem_cons_self ..))
  obtain⟨b1,b2,b3,b4,b5⟩:=bXn es (facE n s a) a1 a2 (fun x hx=>(h3 x (List.mem_cons_of_mem _ hx)).up a3)
  rw[List.foldl_cons]
  refine⟨b1,b2,a3.trans b3,?_,fun val hv=>?_⟩
  .have a4':(facE n s a).2.length<=s.2.length+1:=a4
   rw[List.length_cons];omega
  .have e1:lvF val (facE n s a).1=(lvF val s.1&&lvF val a):=a5 val (hv.pre b3)
   rw[b5 val hv,e1,Bool.and_eq_true,List.forall_mem_cons,and_assoc]
theorem cA0(hc:bA8 I Ls As Bs Cs=0){l:LL}(hw:WFl I Ls l):FO Ls.length (facP I Ls.length l).2/\litF Ls.length (facP I Ls.length l).2 (facP I Ls.length l).1/\(facP I Ls.length l).2.length<=4*(Ls.length+1) /\
  ∀val,AgF (Ls.length+1) (facP I Ls.length l).2 val->(lvF val (facP I Ls.length l).1=true↔∀c∈l,eqM val I c):=by
 obtain⟨g1,g2,es,g3,g4⟩:=bXo hc l hw.1 ([],[]) 0 ⟨fun k p hp=>by simp at hp,by simp,by simp⟩
 unfold facP
 generalize l.foldl (facS I Ls.length) ([],[])=st at g1 g2 g3 g4 ⊢
 obtain⟨b1,b2,b3,b4,b5⟩:=bXn st.1 (1,st.2) g1.fo ⟨by simp,by simp only;omega⟩ g1.lits
 have hf:=g1.few
 have ht:=hw.2
 refine⟨b1,b2,by simp only at b4;omega,fun val hv=>?_⟩
 rw[b5 val hv]
 simp only[List.nil_append]at g3
 rw[g3,g4 val (hv.pre b3)]
 have h1:lvF val 1=true:=by
  have:=bMk val 0
  rw[hv.1]at this
  exact this
 simp[h1]
end
end
section
variable {I:Int} {Ls As:List (Int×Int)} {Bs Cs:List Int}
theorem bCv{n:Nat}{A:LP}{x:Int}(h:litF n A x)(hn:n<=1000)(hA:A.length<=1000):0<=x/\x<=100000:=⟨h.1,by have:=h.2;omega⟩
theorem cDn{n t:Nat}(hI:0<=I/\I<=1000)(hn:n<=200){st:List Int×LP}(hs:FS n st t)(ht:t<=300){h m:Int}(hm:2<=m-2*I/\m-2*I<=2*(n:Int)+1)(hh:h=0\/(2<=h-2*I/\h-2*I<=2*(n:Int)+1)){lit:Int}{K:Int->Int->List Int->LP->Option (LP×Int)}:
  (bif (h==(0:Int)) then((app st.1 ([(bxor .i64 (IntKind.wrap .i64 (m-(IntKind.wrap .i64 (2*I)))) 1)]:List Int)).bind fun l6_=>K (n:Int) lit l6_ st.2) else
   ((bA6 (n:Int) st.2 lit (IntKind.wrap .i64 (m-(IntKind.wrap .i64 (2*I)))) (bxor .i64 (IntKind.wrap .i64 (h-(IntKind.wrap .i64 (2*I)))) 1)).bind fun r7_=>
    (bA6 r7_.2.1 r7_.2.2.1 r7_.2.2.2 (IntKind.wrap .i64 (h-(IntKind.wrap .i64 (2*I)))) (bxor .i64 (IntKind.wrap .i64 (m-(IntKind.wrap .i64 (2*I)))) 1)).bind fun r8_=>
    (bA6 r8_.2.1 r8_.2.2.1 r8_.2.2.2 (bxor .i64 r7_.1 1) (bxor .i64 r8_.1 1)).bind fun r9_=>(app st.1 ([r9_.1]:List Int)).bind fun l10_=>K r9_.2.1 r9_.2.2.2 l10_ r9_.2.2.1))=K (n:Int) lit (facM I n h st m).1 (facM I n h st m).2:=by
 have w0:IntKind.wrap .i64 (2*I)=2*I:=by rw[wr]<;>omega
 have w1:IntKind.wrap .i64 (m-2*I)=m-2*I:=by rw[wr]<;>omega
 have hf:=hs.few
 rw[w0,w1,ce]
 unfold facM
 by_cases h0:h=0
 .rw[if_pos h0,if_pos h0,bH9 (by omega) (by omega),bB1 (by simp only[List.length_singleton];omega),Option.bind_some]
 .have hh':2<=h-2*I/\h-2*I<=2*(n:Int)+1:=by
   rcases hh with h'|h'
   .exact absurd h' h0
   .exact h'
  have w2:IntKind.wrap .i64 (h-2*I)=h-2*I:=by rw[wr]<;>omega
  have hx:litF n st.2 (m-2*I):=⟨by omega,by omega⟩
  have hy:litF n st.2 (h-2*I):=⟨by omega,by omega⟩
  rw[if_neg h0,if_neg h0,w2,bH9 (by omega) (by omega),bH9 (by omega) (by omega)]
  obtain⟨a1,a2,a3,a4,a5⟩:=bJc hs.fo hx hy.neg
  rw[bD1 (by omega) (by omega) (bCv hx (by omega) (by omega)) (bCv hy.neg (by omega) (by omega)),Option.bind_some]
  dsimp only
  generalize andL n st.2 (m-2*I) (negI (h-2*I))=r1 at a1 a2 a3 a4 a5 ⊢
  obtain⟨b1,b2,b3,b4,b5⟩:=bJc a1 (hy.up a3) (hx.neg.up a3)
  rw[bD1 (by omega) (by omega) (bCv (hy.up a3) (by omega) (by omega)) (bCv (hx.neg.up a3) (by omega) (by omega)),Option.bind_some]
  dsimp only
  generalize andL n r1.2 (h-2*I) (negI (m-2*I))=r2 at b1 b2 b3 b4 b5 ⊢
  have s1:=bCv a2 (by omega) (by omega)
  have s2:=bCv b2 (by omega) (by omega)
  rw[bH9 s1.1 (by omega),bH9 s2.1 (by omega)]
  rw[bD1 (by omega) (by omega) (bCv (a2.up b3).neg (by omega) (by omega)) (bCv b2.neg (by omega) (by omega)),Option.bind_some]
  dsimp only
  rw[bB1 (by simp only[List.length_singleton];omega),Option.bind_some]
theorem fact.loop1(hc:bA8 I Ls As Bs Cs=0)(hn:Ls.length<=200){h:Int}{ms:List Int}(hw:WFc I Ls (h::ms)){l:LL}{x23 x24 b1 lit:Int}{o4:LP}(hms:ms.length<=1000):∀(k i:Nat) (st:List Int×LP) (t:Nat),i+k=ms.length->FS Ls.length st t->t+k<=300 ->
  bAd.l1 (h::ms) l x23 x24 ms (ms.length:Int) (i:Int) I Ls As Bs Cs b1 (Ls.length:Int) lit st.1 o4 st.2=bAd.l0 l x23 (IntKind.wrap .i64 (x24+1)) I Ls As Bs Cs b1 (Ls.length:Int) lit ((ms.drop i).foldl (facM I Ls.length h) st).1 o4 ((ms.drop i).foldl (facM I Ls.length h) st).2
 |0,i,st,t,hi,hs,ht=>by
  rw[bAd.l1_eq,cd,if_neg (by omega),List.drop_of_length_le (by omega)]
  rfl
 |k+1,i,st,t,hi,hs,ht=>by
  obtain⟨k1,⟨k2,k3,k4,k5⟩,_⟩:=bA5 hc
  have hlt:i<ms.length:=by omega
  have hw1:IntKind.wrap .i64 ((i:Int)+1)=((i+1:Nat):Int):=by rw[wr]<;>omega
  obtain⟨hh,hm⟩:=bV2 hc hw
  have hmi:=hm _ (List.getElem_mem hlt)
  have hd:ms.drop i=ms[i]::ms.drop (i+1):=(List.getElem_cons_drop ..).symm
  rw[bAd.l1_eq,cd,if_pos (by omega),bB0 hlt,Option.bind_some,show geti (h::ms) 0=some h from rfl,Option.bind_some,Option.bind_some,hw1,hd,List.foldl_cons]
  have hst:=bXm hs hmi.1 hh hmi.2
  have ih:=fact.loop1 hc hn hw (l:=l) (x23:=x23) (x24:=x24) (b1:=b1) (lit:=lit) (o4:=o4) hms k (i+1) _ (t+1) (by omega) hst.1 (by omega)
  exact(cDn (lit:=lit) ⟨k1,k2⟩ hn hs (by omega) hmi.1 hh (K:=fun n' lit' a A=>bAd.l1 (h::ms) l x23 x24 ms (ms.length:Int) ((i+1:Nat):Int) I Ls As Bs Cs b1 n' lit' a o4 A)).trans ih
theorem fact.loop2{n:Nat}(hn:n<=200){es:List Int}(he:es.length<=300){b0:Int}{o3:LP}:∀(k i:Nat) (s:Int×LP),i+k=es.length->FO n s.2->litF n s.2 s.1->(∀a∈es,litF n s.2 a)->s.2.length+k<=1000 ->
  bAd.l2 (es.length:Int) (i:Int) b0 (n:Int) s.1 es o3 s.2=some (((es.drop i).foldl (facE n) s).2,((es.drop i).foldl (facE n) s).1)
 |0,i,s,hi,h1,h2,h3,h4=>by
  rw[bAd.l2_eq,cd,if_neg (by omega),List.drop_of_length_le (by omega)]
  rfl
 |k+1,i,s,hi,h1,h2,h3,h4=>by
  have hlt:i<es.length:=by omega
  have hw1:IntKind.wrap .i64 ((i:Int)+1)=((i+1:Nat):Int):=by rw[wr]<;>omega
  have ha:=h3 _ (List.getElem_mem hlt)
  have hd:es.drop i=es[i]::es.drop (i+1):=(List.getElem_cons_drop ..).symm
  obtain⟨a1,a2,a3,a4,a5⟩:=bJc h1 h2 ha
  rw[bAd.l2_eq,cd,if_pos (by omega),bB0 hlt,Option.bind_some,Int.toNat_natCast,List.getElem?_eq_getElem hlt,Option.bind_some,bD1 (by omega) (by omega) (bCv h2 (by omega) (by omega)) (bCv ha (by omega) (by omega)),Option.bind_some,hw1,hd,List.foldl_cons]
  exact fact.loop2 hn he k (i+1) (facE n s es[i]) (by omega) a1 a2 (fun a ham=>(h3 a ham).up a3) (by have a4':(facE n s es[i]).2.length<=s.2.length+1:=a4;omega)
theorem fact.loop0(hc:bA8 I Ls As Bs Cs=0)(hn:Ls.length<=200){l:LL}(hw:WFl I Ls l){b1 lit:Int}{o4:LP}:∀(k i:Nat) (st:List Int×LP) (t:Nat),i+k=l.length->FS Ls.length st t->t+totL (l.drop i)<=300 ->
  bAd.l0 l (l.length:Int) (i:Int) I Ls As Bs Cs b1 (Ls.length:Int) lit st.1 o4 st.2=bAd.l2 (((l.drop i).foldl (facS I Ls.length) st).1.length:Int) 0 b1 (Ls.length:Int) 1 ((l.drop i).foldl (facS I Ls.length) st).1 o4 ((l.drop i).foldl (facS I Ls.length) st).2
 |0,i,st,t,hi,hs,ht=>by
  rw[bAd.l0_eq,cd,if_neg (by omega),List.drop_of_length_le (by omega)]
  rfl
 |k+1,i,st,t,hi,hs,ht=>by
  have hlt:i<l.length:=by omega
  have hll:=Nat.le_trans (bL8 fun c hc=>(hw.1 c hc).ne) hw.2
  have hw1:IntKind.wrap .i64 ((i:Int)+1)=((i+1:Nat):Int):=by rw[wr]<;>omega
  have hcl:=hw.1 _ (List.getElem_mem hlt)
  have htot:=Nat.le_trans (bQ4 (List.getElem_mem hlt)) hw.2
  have hd:l.drop i=l[i]::l.drop (i+1):=(List.getElem_cons_drop ..).symm
  rw[hd]at ht
  have e9:totL (l[i]::l.drop (i+1))=l[i].length+totL (l.drop (i+1)):=by simp only[totL,List.map_cons,List.sum_cons]
  have ht':t+(l[i].length+totL (l.drop (i+1)))<=300:=by rw[e9]at ht;exact ht
  obtain⟨g1,_⟩:=bXk hc hcl hs
  rw[bAd.l0_eq,cd,if_pos (by omega),bB0 hlt,Option.bind_some,hd,List.foldl_cons]
  generalize l[i]=c at hcl htot ht' g1 ⊢
  match c,hcl,htot,ht',g1 with
  |[],hcl,_,_,_=>exact absurd rfl hcl.ne
  |h::ms,hcl,htot,ht',g1=>
   rw[List.length_cons]at htot ht'
   rw[bP2,Option.bind_some]
   have g:=fact.loop1 (Bs:=Bs) (Cs:=Cs) hc hn hcl (l:=l) (x23:=(l.length:Int)) (x24:=(i:Int)) (b1:=b1) (lit:=lit) (o4:=o4) (by omega) ms.length 0 st t (by omega) hs (by omega)
   rw[show((0:Nat):Int)=0 from rfl,List.drop_zero,hw1]at g
   rw[g]
   exact fact.loop0 hc hn hw k (i+1) _ (t+(h::ms).length) (by omega) g1 (by rw[List.length_cons];omega)
theorem bY8(hc:bA8 I Ls As Bs Cs=0)(hn:Ls.length<=200){l:LL}(hw:WFl I Ls l):bAd I Ls As Bs Cs l=some ((facP I Ls.length l).2,(facP I Ls.length l).1):=by
 rw[bAd.eq]
 have hwt:=hw.2
 have g:=fact.loop0 (b1:=0) (lit:=0) (o4:=[]) hc hn hw l.length 0 ([],[]) 0 (by omega) ⟨fun k p hp=>by simp at hp,by simp,by simp⟩ (by rw[List.drop_zero];omega)
 rw[show((0:Nat):Int)=0 from rfl,List.drop_zero]at g
 refine Eq.trans g ?_
 obtain⟨g1,_⟩:=bXo hc l hw.1 ([],[]) 0 ⟨fun k p hp=>by simp at hp,by simp,by simp⟩
 have hf:=g1.few
 have g2:=fact.loop2 (b0:=0) (o3:=[]) hn (es:=(l.foldl (facS I Ls.length) ([],[])).1) (by omega) (l.foldl (facS I Ls.length) ([],[])).1.length 0 (1,(l.foldl (facS I Ls.length) ([],[])).2) (by omega) g1.fo ⟨by simp,by simp only;omega⟩ g1.lits (by simp only;omega)
 rw[show((0:Nat):Int)=0 from rfl,List.drop_zero]at g2
 exact g2
theorem cBg.loop{n:Nat}{A:LP}(h:FO n A)(hn:n+A.length<=1000){B:LP}{lit:Int}(hl:litF n A lit)(hB:B.length=A.length):∀(k i:Nat),i+k=A.length->bBw.l0 (n:Int) A (A.length:Int) (i:Int) B lit=some 0
 |0,i,hi=>by
  have q1:=hl.1;have q2:=hl.2
  have w1:IntKind.wrap .i64 ((n:Int)+(B.length:Int))=(n:Int)+(A.length:Int):=by rw[wr]<;>omega
  rw[bBw.l0_eq,cd,if_neg (by omega),cd,if_neg (by omega),bJs q1 (by omega),w1,cd,if_neg (by omega)]
 |k+1,i,hi=>by
  have hlt:i<A.length:=by omega
  have hw1:IntKind.wrap .i64 ((i:Int)+1)=((i+1:Nat):Int):=by rw[wr]<;>omega
  obtain⟨q1,q2,q3⟩:=h i _ (List.getElem?_eq_getElem hlt)
  have w1:IntKind.wrap .i64 ((n:Int)+1)=(n:Int)+1:=by rw[wr]<;>omega
  have w2:IntKind.wrap .i64 ((n:Int)+1+(i:Int))=(n:Int)+1+(i:Int):=by rw[wr]<;>omega
  have w3:IntKind.wrap .i64 (2*((n:Int)+1+(i:Int)))=2*((n:Int)+1+(i:Int)):=by rw[wr]<;>omega
  rw[bBw.l0_eq,cd,if_pos (by omega),bB0 hlt,Option.bind_some,cd,if_neg (by omega),cd,if_neg (by omega),w1,w2,w3,cd,if_neg (by omega),hw1]
  exact cBg.loop h hn hl hB k (i+1) (by omega)
theorem bQa{n:Nat}{A:LP}(h:FO n A)(hn:n+A.length<=1000){lit:Int}(hl:litF n A lit):bBw (n:Int) A lit=some 0:=by
 have w1:IntKind.wrap .i64 ((n:Int)+(A.length:Int))=(n:Int)+(A.length:Int):=by rw[wr]<;>omega
 have g:=cBg.loop h hn hl (B:=A) rfl A.length 0 (by omega)
 rw[bBw.eq,cd,if_neg (by omega),cd,if_neg (by omega),w1,cd,if_neg (by omega)]
 exact g
def liftP(I:Int)(Ls:LP)(A:LP)(lit:Int):=((bJ7 I Ls).1.1,(bJ7 I Ls).1.2.1,(bJ7 I Ls).1.2.2.1,(bJ7 I Ls).1.2.2.2.1,(bJ7 I Ls).1.2.2.2.2.1,A,lit)
theorem bZq(h:bDd I Ls As Bs Cs)(hc:bA8 I Ls As Bs Cs=0){b:Int}(hb:b<0\/100000<b):∃r,bBx I Ls As Bs Cs b=some (r,2):=by
 rw[bBx.eq,bC4 h,Option.bind_some,hc,cn,if_pos rfl,cd]
 by_cases h0:b<0
 .rw[if_pos h0];exact⟨_,rfl⟩
 .rw[if_neg h0,cd,if_pos (by omega)];exact⟨_,rfl⟩
theorem lpass_bad(h:bDd I Ls As Bs Cs)(hc:bA8 I Ls As Bs Cs≠0)(b:Int):∃r,bBx I Ls As Bs Cs b=some (r,bA8 I Ls As Bs Cs):=by
 rw[bBx.eq,bC4 h,Option.bind_some,cn,if_neg hc]
 exact⟨_,rfl⟩
theorem bZp(h:bDd I Ls As Bs Cs)(hc:bA8 I Ls As Bs Cs=0)(hn:Ls.length<=190){b:Int}(hb:0<=b/\b<=100000){l:LL}(hw:WFl I Ls l){x:Circ}(hf:bBn I Ls As Bs Cs b=some (l,x,0)):bBx I Ls As Bs Cs b=some ((x,liftP I Ls (facP I Ls.length l).2 (facP I Ls.length l).1),0):=by
 obtain⟨p1,p2,p3,p4⟩:=cA0 hc hw
 rw[bBx.eq,bC4 h,Option.bind_some,hc,cn,if_pos rfl,cd,if_neg (by omega),cd,if_neg (by omega),bHq h hc,Option.bind_some,hf,Option.bind_some]
 dsimp only
 rw[bY8 hc (by omega) hw,Option.bind_some,cn,if_pos rfl]
 dsimp only
 rw[bQa p1 (by omega) p2,Option.bind_some,cn,if_pos rfl]
 rfl
end
section
theorem bY0{v:Int}:okL v []:=fun c hc=>by cases hc
theorem sol_2:bHg 1 [2] []=(true,[2],[],0):=by
 show solA 1 [2] (meas 1 [] []+1) _ _ _ _=_
 rw[show meas 1 [] []=(meas 1 [] []-1)+1 by decide,bP6 (T:=[]) (l:=2) (by decide) (by decide) (by decide),bT1 (T:=[2]) (by decide) (by decide) (by decide)];rfl
theorem sol_3:bHg 1 [3] []=(true,[3],[],0):=by
 show solA 1 [3] (meas 1 [] []+1) _ _ _ _=_
 rw[show meas 1 [] []=(meas 1 [] []-1)+1 by decide,bP6 (T:=[]) (l:=3) (by decide) (by decide) (by decide),bT1 (T:=[3]) (by decide) (by decide) (by decide)];rfl
theorem sol_25:bHg 2 [2,5] []=(true,[2,5],[],0):=by
 show solA 2 [2,5] (meas 2 [] []+1) _ _ _ _=_
 rw[show meas 2 [] []=(meas 2 [] []-2)+1+1 by decide,bP6 (T:=[]) (l:=2) (by decide) (by decide) (by decide),bP6 (T:=[2]) (l:=5) (by decide) (by decide) (by decide),bT1 (T:=[2,5]) (by decide) (by decide) (by decide)];rfl
theorem run_2:∃x,bCi 1 [] [2] 100=some (x,0)/\x.1=true:=
 ⟨_,bPw (b:=100) ⟨by decide,by decide,by decide,by decide,by decide⟩ (by decide) bY0 (by decide) ⟨by rw[sol_2];decide,by omega⟩,by show(bHg 1 [2] []).1=true;rw[sol_2]⟩
theorem run_3:∃x,bCi 1 [] [3] 100=some (x,0)/\x.1=true:=
 ⟨_,bPw (b:=100) ⟨by decide,by decide,by decide,by decide,by decide⟩ (by decide) bY0 (by decide) ⟨by rw[sol_3];decide,by omega⟩,by show(bHg 1 [3] []).1=true;rw[sol_3]⟩
theorem run_25:∃x,bCi 2 [] [2,5] 100=some (x,0)/\x.1=true:=
 ⟨_,bPw (b:=100) ⟨by decide,by decide,by decide,by decide,by decide⟩ (by decide) bY0 (by decide) ⟨by rw[sol_25];decide,by omega⟩,by show(bHg 2 [2,5] []).1=true;rw[sol_25]⟩
section
variable {I:Int} {Ls As:List (Int×Int)} {Bs Cs:List Int}
theorem bTk(h:bDd I Ls As Bs Cs)(hc:bA8 I Ls As Bs Cs=0){a bud v:Int}{R:List Int}{L:List (List Int)}(hr:∀l∈[a,1],in64 l)(hl:∀l∈[a,1],litN (size I Ls As) l)(e:tsC I Ls As [a,1]=(v,([R],L)))
  {ja:Int} (hra:(a/2).toNat<R.length) (hja:R.getD (a/2).toNat 0=2*ja) (h1:1<=ja/\ja<=1000000) (h0:R.getD 0 0=0) (ha:1<a/\a<=1000000)
  {p:Int} (hp:litR R a=p) {x:Ansr} (hrun:bCi v L [p] bud=some (x,0)):bAr I Ls As Bs Cs a 1 bud=some (!x.1,0):=by
 have la:1<p:=by rw[<-hp];unfold litR;rw[hja];omega
 have l1:litR R 1=1:=by unfold litR;rw[show((1:Int)/2).toNat=0 from rfl,h0];rfl
 have s0:=never.step (bud:=bud) (v:=v) (ls:=[a,1]) (A:=[]) (R:=R) (L:=L) (i:=0) (y:=a) (j:=ja) (by simp) (by simp) rfl ⟨by omega,by omega⟩ hra hja ⟨by omega,by omega⟩ (fun h=>by omega) (by simp)
 have s1:=never.step (bud:=bud) (v:=v) (ls:=[a,1]) (A:=[p]) (R:=R) (L:=L) (i:=1) (y:=1) (j:=0) (by simp) (by simp) rfl ⟨by omega,by omega⟩ (by show((1:Int)/2).toNat<R.length;rw[show((1:Int)/2).toNat=0 from rfl];omega) (by rw[show((1:Int)/2).toNat=0 from rfl,h0];rfl) ⟨by omega,by omega⟩ (fun _=>rfl) (by simp)
 have he:=bQc (bud:=bud) (v:=v) (ls:=[a,1]) (A:=[p]) (rs:=[R]) (L:=L)
 rw[show((0:Nat):Int)=0 from rfl,hp,if_neg (by omega),if_pos la,List.nil_append]at s0
 rw[l1,if_neg (by omega),if_neg (by omega),show(((1:Nat)+1:Nat):Int)=(([a,1]:List Int).length:Int) from rfl,he,hrun,Option.bind_some]at s1
 rw[bAr.eq,bV5 h (by simp) hr hc hl e,Option.bind_some]
 dsimp only
 rw[cn,if_pos rfl,s0]
 exact s1.trans (if_pos rfl)
theorem never_two(h:bDd I Ls As Bs Cs)(hc:bA8 I Ls As Bs Cs=0){a b bud v:Int}{R:List Int}{L:List (List Int)}(hr:∀l∈[a,b],in64 l)(hl:∀l∈[a,b],litN (size I Ls As) l)(e:tsC I Ls As [a,b]=(v,([R],L)))
  {ja jb:Int} (hra:(a/2).toNat<R.length) (hja:R.getD (a/2).toNat 0=2*ja) (h1:1<=ja/\ja<=1000000) (hrb:(b/2).toNat<R.length) (hjb:R.getD (b/2).toNat 0=2*jb) (h2:1<=jb/\jb<=1000000) (ha:1<a/\a<=1000000) (hb:1<b/\b<=1000000)
  {p q:Int} (hp:litR R a=p) (hq:litR R b=q) {x:Ansr} (hrun:bCi v L [p,q] bud=some (x,0)):bAr I Ls As Bs Cs a b bud=some (!x.1,0):=by
 have la:1<p:=by rw[<-hp];unfold litR;rw[hja];omega
 have lb:1<q:=by rw[<-hq];unfold litR;rw[hjb];omega
 have s0:=never.step (bud:=bud) (v:=v) (ls:=[a,b]) (A:=[]) (R:=R) (L:=L) (i:=0) (y:=a) (j:=ja) (by simp) (by simp) rfl ⟨by omega,by omega⟩ hra hja ⟨by omega,by omega⟩ (fun h=>by omega) (by simp)
 have s1:=never.step (bud:=bud) (v:=v) (ls:=[a,b]) (A:=[p]) (R:=R) (L:=L) (i:=1) (y:=b) (j:=jb) (by simp) (by simp) rfl ⟨by omega,by omega⟩ hrb hjb ⟨by omega,by omega⟩ (fun h=>by omega) (by simp)
 have he:=bQc (bud:=bud) (v:=v) (ls:=[a,b]) (A:=[p,q]) (rs:=[R]) (L:=L)
 rw[show((0:Nat):Int)=0 from rfl,hp,if_neg (by omega),if_pos la,List.nil_append]at s0
 rw[hq,if_neg (by omega),if_pos lb,show[p]++[q]=[p,q] from rfl,show(((1:Nat)+1:Nat):Int)=(([a,b]:List Int).length:Int) from rfl,he,hrun,Option.bind_some]at s1
 rw[bAr.eq,bV5 h (by simp) hr hc hl e,Option.bind_some]
 dsimp only
 rw[cn,if_pos rfl,s0]
 exact s1.trans (if_pos rfl)
theorem bJh{a b bud:Int}(ha:0<=a/\a<=1000)(e:a=b):bBy I Ls As Bs Cs a b bud=some (true,0):=by
 subst e
 rw[bBy.eq,ce,if_pos rfl,beq_self_eq_true]
theorem equal_neg{a b bud:Int}(hb:0<=b/\b<=1000)(e:a=negI b):bBy I Ls As Bs Cs a b bud=some (false,0):=by
 have hne:a≠b:=by rw[e];unfold negI;split<;>omega
 rw[bBy.eq,bH9 hb.1 (by omega),ce,if_neg hne,ce,if_pos e,beq_false_of_ne hne]
theorem bGu{a b bud:Int}(ha:0<=a/\a<=1000)(hb:0<=b/\b<=1000)(h1:a≠b)(h2:a≠negI b)(hn:bAr I Ls As Bs Cs a (negI b) bud=some (false,0)):bBy I Ls As Bs Cs a b bud=some (false,0):=by
 rw[bBy.eq,bH9 ha.1 (by omega),bH9 hb.1 (by omega),ce,if_neg h1,ce,if_neg h2,hn,Option.bind_some]
 rfl
theorem q_is{L:LP}{E:Ask2}{m h y z:Int}{r:Bool×Int}(h1:nxF I L m=some y)(h2:nxF I L h=some z)(h3:E y z=some r):qF I L E m h=some r:=by
 unfold qF
 rw[h1,h2]
 exact h3
end
def memB(I:Int)(Ls:LP)(m:Int):Bool:=match Ls[(m/2-I-1).toNat]? with
 |some p=>(decide (p.2=0)||decide (p.2=1))&&decide (m=2*(I+1+((m/2-I-1).toNat:Int))+p.2)
 |none=>false
theorem cC5{I:Int}{Ls:LP}{m:Int}(h:memB I Ls m=true):memL I Ls m:=by
 unfold memB at h
 split at h
 .rename_i p hp
  rw[Bool.and_eq_true,Bool.or_eq_true,decide_eq_true_eq,decide_eq_true_eq,decide_eq_true_eq]at h
  exact⟨_,p,hp,h.1,h.2⟩
 .cases h
def wfB(I:Int)(Ls:LP)(l:LL):Bool:=(l.all fun c=>!c.isEmpty&&(c.all fun m=>decide (m=0)||memB I Ls m)&&decide (c.Pairwise (fun x y=>x/2<y/2)))&&decide (totL l<=Ls.length+1)
theorem cCa{I:Int}{Ls:LP}{l:LL}(h:wfB I Ls l=true):WFl I Ls l:=by
 unfold wfB at h
 rw[Bool.and_eq_true,decide_eq_true_eq,List.all_eq_true]at h
 refine⟨fun c hc=>?_,h.2⟩
 have:=h.1 c hc
 rw[Bool.and_eq_true,Bool.and_eq_true,decide_eq_true_eq,List.all_eq_true]at this
 obtain⟨⟨h1,h2⟩,h3⟩:=this
 refine⟨fun e=>by rw[e]at h1;simp at h1,fun m hm=>?_,h3⟩
 have:=h2 m hm
 rw[Bool.or_eq_true,decide_eq_true_eq]at this
 exact this.imp id cC5
section
variable {I:Int} {Ls As:List (Int×Int)} {Bs Cs:List Int}
theorem bGq(h:bDd I Ls As Bs Cs)(hc:bA8 I Ls As Bs Cs=0){b:Int}{k:Nat}{l:LL}(hw:wfB I Ls l=true){x:Circ}(hx:lB I Ls As Bs Cs l=x)(hxl:x.2.1.length<=1000)(hs:bWe l=true){S L:LL}(hr:rndF (qF I x.2.1 (askE (bBg E (DM E)) b x)) l=some (.inr (S,L))):
  fndF (askB (bBg E (DM E)) I Ls As Bs Cs (size I Ls As)) (askE (bBg E (DM E)) b) I (k+1) l=if L=[] then some (.inr (l,x)) else fndF (askB (bBg E (DM E)) I Ls As Bs Cs (size I Ls As)) (askE (bBg E (DM E)) b) I k (S++L):=by
 have hB:askB (bBg E (DM E)) I Ls As Bs Cs (size I Ls As) l=some x:=by
  rw[bVu,bPc h hc (cCa hw),Option.bind_some,hx,if_pos hxl]
 simp only[fndF,if_pos hs,hB,hr]
end
theorem bGe{f s n:Int}(hf:0<=f/\f<=2)(hs:0<=s/\s<=2)(hn:0<=n/\n<=100){Bs:List Int}(hB:Bs.length<=10)(hB2:∀x∈Bs,in64 x){a:Int}(ha:0<=a/\a<=100):bDd 1 [(a,f),(n,s)] [] Bs []:=by
 refine⟨by unfold in64;omega,⟨by simp,fun x hx=>?_⟩,⟨by simp,by simp⟩,⟨by omega,hB2⟩,⟨by simp,by simp⟩⟩
 simp only[List.mem_cons,List.not_mem_nil,or_false]at hx
 rcases hx with rfl|rfl<;>exact⟨by unfold in64;simp only;omega,by unfold in64;simp only;omega⟩
theorem bJ2{Ls:LP}{Bs:List Int}(h:bDd 1 Ls [] Bs [])(hc:bA8 1 Ls [] Bs []=0){R:List Int}(e:tsC 1 Ls [] [2,1]=(1,([R],[])))(hl:R.length=Ls.length+2)(h1:R.getD 1 0=2)(h0:R.getD 0 0=0):bAr 1 Ls [] Bs [] 2 1 100=some (false,0):=by
 obtain⟨x,hx,hs⟩:=run_2
 have hsz:1<=size 1 Ls []:=by unfold size;simp;omega
 have:=bTk h hc (bud:=100) (a:=2) (by simp[in64]) (by
  intro l hl
  simp only[List.mem_cons,List.not_mem_nil,or_false]at hl
  rcases hl with rfl|rfl<;>exact bC3.2 ⟨by omega,by omega⟩) e (ja:=1) (by show((2:Int)/2).toNat<R.length;rw[show((2:Int)/2).toNat=1 from rfl];omega) (by rw[show((2:Int)/2).toNat=1 from rfl,h1];rfl) (by omega) h0 (by omega) (p:=2) (by unfold litR;rw[show((2:Int)/2).toNat=1 from rfl,h1];rfl) hx
 rw[this,hs];rfl
theorem two_never3{Ls:LP}{Bs:List Int}(h:bDd 1 Ls [] Bs [])(hc:bA8 1 Ls [] Bs []=0){R:List Int}(e:tsC 1 Ls [] [3,1]=(1,([R],[])))(hl:R.length=Ls.length+2)(h1:R.getD 1 0=2)(h0:R.getD 0 0=0):bAr 1 Ls [] Bs [] 3 1 100=some (false,0):=by
 obtain⟨x,hx,hs⟩:=run_3
 have hsz:1<=size 1 Ls []:=by unfold size;simp;omega
 have:=bTk h hc (bud:=100) (a:=3) (by simp[in64]) (by
  intro l hl
  simp only[List.mem_cons,List.not_mem_nil,or_false]at hl
  rcases hl with rfl|rfl<;>exact bC3.2 ⟨by omega,by omega⟩) e (ja:=1) (by show((3:Int)/2).toNat<R.length;rw[show((3:Int)/2).toNat=1 from rfl];omega) (by rw[show((3:Int)/2).toNat=1 from rfl,h1];rfl) (by omega) h0 (by omega) (p:=3) (by unfold litR;rw[show((3:Int)/2).toNat=1 from rfl,h1];rfl) hx
 rw[this,hs];rfl
theorem bZ6:bBn 1 [(2,0),(2,0)] [] [4,6] [] 100=some ([[0],[4,6]],(1,[(2,0),(2,0)],[],[4,4],[]),0):=by
 have h0:=bGe (f:=0) (s:=0) (n:=2) (a:=2) (by omega) (by omega) (by omega) (Bs:=[4,6]) (by simp) (by simp[in64]) (by omega)
 have c0:bA8 1 [(2,0),(2,0)] [] [4,6] []=0:=by decide
 have h1:=bGe (f:=0) (s:=0) (n:=2) (a:=2) (by omega) (by omega) (by omega) (Bs:=[0,0]) (by simp) (by simp[in64]) (by omega)
 have c1:bA8 1 [(2,0),(2,0)] [] [0,0] []=0:=by decide
 have n1:=bJ2 h1 c1 (R:=[0,2,-1,-1]) (by kernel_rfl) rfl rfl rfl
 have b1:lB 1 [(2,0),(2,0)] [] [4,6] [] [[0,4,6]]=(1,[(2,0),(2,0)],[],[0,0],[]):=by kernel_rfl
 have b2:lB 1 [(2,0),(2,0)] [] [4,6] [] [[0],[4,6]]=(1,[(2,0),(2,0)],[],[4,4],[]):=by kernel_rfl
 have q1:qF 1 [(2,0),(2,0)] (askE (bBg E (DM E)) 100 (1,[(2,0),(2,0)],[],[0,0],[])) 4 0=some (false,0):=q_is (y:=2) (z:=0) (by decide) (by decide) (bFw.trans (bGu (by omega) (by omega) (by omega) (by decide) n1))
 have q2:qF 1 [(2,0),(2,0)] (askE (bBg E (DM E)) 100 (1,[(2,0),(2,0)],[],[0,0],[])) 6 0=some (false,0):=q_is (y:=2) (z:=0) (by decide) (by decide) (bFw.trans (bGu (by omega) (by omega) (by omega) (by decide) n1))
 have q3:qF 1 [(2,0),(2,0)] (askE (bBg E (DM E)) 100 (1,[(2,0),(2,0)],[],[4,4],[])) 6 4=some (true,0):=q_is (y:=2) (z:=2) (by decide) (by decide) (bFw.trans (bJh (by omega) rfl))
 have r1:=bGq h0 c0 (b:=100) (k:=3) (l:=[[0,4,6]]) (by decide) b1 (by simp) (by decide) (S:=[[0]]) (L:=[[4,6]]) (by simp only[rndF,splF,List.foldl_cons,List.foldl_nil,stcF,stpF,q1,q2];simp)
 have r2:=bGq h0 c0 (b:=100) (k:=2) (l:=[[0],[4,6]]) (by decide) b2 (by simp) (by decide) (S:=[[0],[4,6]]) (L:=[]) (by simp only[rndF,splF,List.foldl_cons,List.foldl_nil,stcF,stpF,q3,List.cons_append,List.nil_append];simp)
 rw[find_eq h0 c0 (by omega),show iniF 1 [(2,0),(2,0)] ([(2,0),(2,0)]:LP).length=[0,4,6] by decide]
 exact congrArg endF (r1.trans ((if_neg (by simp)).trans (r2.trans (if_pos rfl))))
theorem bYb:bBn 1 [(2,0),(3,1)] [] [4,6] [] 100=some ([[0],[4,7]],(1,[(2,0),(3,1)],[],[4,5],[]),0):=by
 have h0:=bGe (f:=0) (s:=1) (n:=3) (a:=2) (by omega) (by omega) (by omega) (Bs:=[4,6]) (by simp) (by simp[in64]) (by omega)
 have c0:bA8 1 [(2,0),(3,1)] [] [4,6] []=0:=by decide
 have h1:=bGe (f:=0) (s:=1) (n:=3) (a:=2) (by omega) (by omega) (by omega) (Bs:=[0,1]) (by simp) (by simp[in64]) (by omega)
 have c1:bA8 1 [(2,0),(3,1)] [] [0,1] []=0:=by decide
 have n1:=bJ2 h1 c1 (R:=[0,2,-1,-1]) (by kernel_rfl) rfl rfl rfl
 have b1:lB 1 [(2,0),(3,1)] [] [4,6] [] [[0,4,7]]=(1,[(2,0),(3,1)],[],[0,1],[]):=by kernel_rfl
 have b2:lB 1 [(2,0),(3,1)] [] [4,6] [] [[0],[4,7]]=(1,[(2,0),(3,1)],[],[4,5],[]):=by kernel_rfl
 have q1:qF 1 [(2,0),(3,1)] (askE (bBg E (DM E)) 100 (1,[(2,0),(3,1)],[],[0,1],[])) 4 0=some (false,0):=q_is (y:=2) (z:=0) (by decide) (by decide) (bFw.trans (bGu (by omega) (by omega) (by omega) (by decide) n1))
 have q2:qF 1 [(2,0),(3,1)] (askE (bBg E (DM E)) 100 (1,[(2,0),(3,1)],[],[0,1],[])) 7 0=some (false,0):=q_is (y:=2) (z:=0) (by decide) (by decide) (bFw.trans (bGu (by omega) (by omega) (by omega) (by decide) n1))
 have q3:qF 1 [(2,0),(3,1)] (askE (bBg E (DM E)) 100 (1,[(2,0),(3,1)],[],[4,5],[])) 7 4=some (true,0):=q_is (y:=2) (z:=2) (by decide) (by decide) (bFw.trans (bJh (by omega) rfl))
 have r1:=bGq h0 c0 (b:=100) (k:=3) (l:=[[0,4,7]]) (by decide) b1 (by simp) (by decide) (S:=[[0]]) (L:=[[4,7]]) (by simp only[rndF,splF,List.foldl_cons,List.foldl_nil,stcF,stpF,q1,q2];simp)
 have r2:=bGq h0 c0 (b:=100) (k:=2) (l:=[[0],[4,7]]) (by decide) b2 (by simp) (by decide) (S:=[[0],[4,7]]) (L:=[]) (by simp only[rndF,splF,List.foldl_cons,List.foldl_nil,stcF,stpF,q3,List.cons_append,List.nil_append];simp)
 rw[find_eq h0 c0 (by omega),show iniF 1 [(2,0),(3,1)] ([(2,0),(3,1)]:LP).length=[0,4,7] by decide]
 exact congrArg endF (r1.trans ((if_neg (by simp)).trans (r2.trans (if_pos rfl))))
theorem sameC.loop{a:LL}(h:∀c∈a,c.length<=100000)(hn:a.length<=100000):∀(k i:Nat),i+k=a.length->bAb.l0 a a (i:Int)=some true
 |0,i,hi=>by rw[bAb.l0_eq,cd,if_neg (by omega)]
 |k+1,i,hi=>by
  have hlt:i<a.length:=by omega
  have hw:IntKind.wrap .i64 ((i:Int)+1)=((i+1:Nat):Int):=by rw[wr]<;>omega
  rw[bAb.l0_eq,cd,if_pos (by omega),bB0 hlt,Option.bind_some,Option.bind_some,bJn (h _ (List.getElem_mem hlt)),Option.bind_some,show(!true)=false from rfl,cf,hw]
  exact sameC.loop h hn k (i+1) (by omega)
theorem bJg{a:LL}(h:∀c∈a,c.length<=100000)(hn:a.length<=100000):bAb a a=some true:=by
 rw[bAb.eq,cn,if_pos rfl]
 exact sameC.loop h hn a.length 0 (by omega)
theorem bYe:bB3=some true:=by
 rw[bB3.eq,bBe.eq,Option.bind_some]
 dsimp only
 rw[bBk.eq,bZ6,Option.bind_some,Option.bind_some,bBe.eq,Option.bind_some]
 dsimp only
 rw[bBk.eq,bYb,Option.bind_some,Option.bind_some]
 dsimp only
 rw[ce,if_pos rfl,bJg (by decide) (by decide),Option.bind_some,ct,ce,if_pos rfl,bJg (by decide) (by decide),Option.bind_some]
end
theorem exC_find:bBn 1 [(2,0),(2,2)] [] [4,6] [] 100=some ([[0],[4]],(1,[(2,0),(2,2)],[],[4,6],[]),0):=by
 have h0:=bGe (f:=0) (s:=2) (n:=2) (a:=2) (by omega) (by omega) (by omega) (Bs:=[4,6]) (by simp) (by simp[in64]) (by omega)
 have c0:bA8 1 [(2,0),(2,2)] [] [4,6] []=0:=by decide
 have h1:=bGe (f:=0) (s:=2) (n:=2) (a:=2) (by omega) (by omega) (by omega) (Bs:=[0,6]) (by simp) (by simp[in64]) (by omega)
 have c1:bA8 1 [(2,0),(2,2)] [] [0,6] []=0:=by decide
 have n1:=bJ2 h1 c1 (R:=[0,2,-1,-1]) (by kernel_rfl) rfl rfl rfl
 have b1:lB 1 [(2,0),(2,2)] [] [4,6] [] [[0,4]]=(1,[(2,0),(2,2)],[],[0,6],[]):=by kernel_rfl
 have b2:lB 1 [(2,0),(2,2)] [] [4,6] [] [[0],[4]]=(1,[(2,0),(2,2)],[],[4,6],[]):=by kernel_rfl
 have q1:qF 1 [(2,0),(2,2)] (askE (bBg E (DM E)) 100 (1,[(2,0),(2,2)],[],[0,6],[])) 4 0=some (false,0):=q_is (y:=2) (z:=0) (by decide) (by decide) (bFw.trans (bGu (by omega) (by omega) (by omega) (by decide) n1))
 have r1:=bGq h0 c0 (b:=100) (k:=3) (l:=[[0,4]]) (by decide) b1 (by simp) (by decide) (S:=[[0]]) (L:=[[4]]) (by simp only[rndF,splF,List.foldl_cons,List.foldl_nil,stcF,stpF,q1];simp)
 have r2:=bGq h0 c0 (b:=100) (k:=2) (l:=[[0],[4]]) (by decide) b2 (by simp) (by decide) (S:=[[0],[4]]) (L:=[]) (by simp only[rndF,splF,List.foldl_cons,List.foldl_nil,stcF,stpF,List.cons_append,List.nil_append];simp)
 rw[find_eq h0 c0 (by omega),show iniF 1 [(2,0),(2,2)] ([(2,0),(2,2)]:LP).length=[0,4] by decide]
 exact congrArg endF (r1.trans ((if_neg (by simp)).trans (r2.trans (if_pos rfl))))
theorem exD_find:bBn 1 [(2,0),(3,0)] [] [4,6] [] 100=some ([[0],[4],[6]],(1,[(2,0),(3,0)],[],[4,6],[]),0):=by
 have h0:=bGe (f:=0) (s:=0) (n:=3) (a:=2) (by omega) (by omega) (by omega) (Bs:=[4,6]) (by simp) (by simp[in64]) (by omega)
 have c0:bA8 1 [(2,0),(3,0)] [] [4,6] []=0:=by decide
 have h1:=bGe (f:=0) (s:=0) (n:=3) (a:=2) (by omega) (by omega) (by omega) (Bs:=[0,0]) (by simp) (by simp[in64]) (by omega)
 have c1:bA8 1 [(2,0),(3,0)] [] [0,0] []=0:=by decide
 have n1:=bJ2 h1 c1 (R:=[0,2,-1,-1]) (by kernel_rfl) rfl rfl rfl
 have n2:=two_never3 h1 c1 (R:=[0,2,-1,-1]) (by kernel_rfl) rfl rfl rfl
 have b1:lB 1 [(2,0),(3,0)] [] [4,6] [] [[0,4,6]]=(1,[(2,0),(3,0)],[],[0,0],[]):=by kernel_rfl
 have b2:lB 1 [(2,0),(3,0)] [] [4,6] [] [[0],[4,6]]=(1,[(2,0),(3,0)],[],[4,4],[]):=by kernel_rfl
 have b3:lB 1 [(2,0),(3,0)] [] [4,6] [] [[0],[4],[6]]=(1,[(2,0),(3,0)],[],[4,6],[]):=by kernel_rfl
 have q1:qF 1 [(2,0),(3,0)] (askE (bBg E (DM E)) 100 (1,[(2,0),(3,0)],[],[0,0],[])) 4 0=some (false,0):=q_is (y:=2) (z:=0) (by decide) (by decide) (bFw.trans (bGu (by omega) (by omega) (by omega) (by decide) n1))
 have q2:qF 1 [(2,0),(3,0)] (askE (bBg E (DM E)) 100 (1,[(2,0),(3,0)],[],[0,0],[])) 6 0=some (false,0):=q_is (y:=3) (z:=0) (by decide) (by decide) (bFw.trans (bGu (by omega) (by omega) (by omega) (by decide) n2))
 have q3:qF 1 [(2,0),(3,0)] (askE (bBg E (DM E)) 100 (1,[(2,0),(3,0)],[],[4,4],[])) 6 4=some (false,0):=q_is (y:=3) (z:=2) (by decide) (by decide) (bFw.trans (equal_neg (by omega) (by decide)))
 have r1:=bGq h0 c0 (b:=100) (k:=3) (l:=[[0,4,6]]) (by decide) b1 (by simp) (by decide) (S:=[[0]]) (L:=[[4,6]]) (by simp only[rndF,splF,List.foldl_cons,List.foldl_nil,stcF,stpF,q1,q2];simp)
 have r2:=bGq h0 c0 (b:=100) (k:=2) (l:=[[0],[4,6]]) (by decide) b2 (by simp) (by decide) (S:=[[0],[4]]) (L:=[[6]]) (by simp only[rndF,splF,List.foldl_cons,List.foldl_nil,stcF,stpF,q3,List.cons_append,List.nil_append];simp)
 have r3:=bGq h0 c0 (b:=100) (k:=1) (l:=[[0],[4],[6]]) (by decide) b3 (by simp) (by decide) (S:=[[0],[4],[6]]) (L:=[]) (by simp only[rndF,splF,List.foldl_cons,List.foldl_nil,stcF,stpF,List.cons_append,List.nil_append];simp)
 rw[find_eq h0 c0 (by omega),show iniF 1 [(2,0),(3,0)] ([(2,0),(3,0)]:LP).length=[0,4,6] by decide]
 exact congrArg endF (r1.trans ((if_neg (by simp)).trans (r2.trans ((if_neg (by simp)).trans (r3.trans (if_pos rfl))))))
def c4L:LP:=[(4,0),(7,1),(5,1),(2,0)]
def c4M:LP:=[(0,0),(0,1),(1,1),(2,0)]
def c4N:LP:=[(0,0),(7,1),(1,1),(2,0)]
theorem bYa{L:LP}(hL:L.length<=10)(h:∀x∈L,in64 x.1/\in64 x.2):bDd 1 L [] [] []:=⟨by unfold in64;omega,⟨by omega,h⟩,⟨by simp,by simp⟩,⟨by simp,by simp⟩,⟨by simp,by simp⟩⟩
theorem c4_never:bAr 1 c4N [] [] [] 2 7 100=some (false,0):=by
 obtain⟨x,hx,hs⟩:=run_25
 have h:=bYa (L:=c4N) (by decide) (by decide)
 have:=never_two h (by decide) (bud:=100) (a:=2) (b:=7) (v:=2) (R:=[0,2,-1,4,-1,-1]) (L:=[]) (by decide) (by decide) (by kernel_rfl) (ja:=1) (jb:=2) (by decide) (by decide) (by omega) (by decide) (by decide) (by omega) (by omega) (by omega) (p:=2) (q:=5) (by decide) (by decide) hx
 rw[this,hs];rfl
theorem exE_find:bBn 1 c4L [] [] [] 100=some ([[0,4,9],[7],[10]],(1,c4N,[],[],[]),0):=by
 have h0:=bYa (L:=c4L) (by decide) (by decide)
 have c0:bA8 1 c4L [] [] []=0:=by decide
 have h1:=bYa (L:=c4M) (by decide) (by decide)
 have c1:bA8 1 c4M [] [] []=0:=by decide
 have n1:=bJ2 h1 c1 (R:=[0,2,-1,-1,-1,-1]) (by kernel_rfl) rfl rfl rfl
 have b1:lB 1 c4L [] [] [] [[0,4,7,9,10]]=(1,c4M,[],[],[]):=by kernel_rfl
 have b2:lB 1 c4L [] [] [] [[0,4,9],[7,10]]=(1,c4N,[],[],[]):=by kernel_rfl
 have b3:lB 1 c4L [] [] [] [[0,4,9],[7],[10]]=(1,c4N,[],[],[]):=by kernel_rfl
 have q1:qF 1 c4M (askE (bBg E (DM E)) 100 (1,c4M,[],[],[])) 4 0=some (true,0):=q_is (y:=0) (z:=0) (by decide) (by decide) (bFw.trans (bJh (by omega) rfl))
 have q2:qF 1 c4M (askE (bBg E (DM E)) 100 (1,c4M,[],[],[])) 7 0=some (false,0):=q_is (y:=1) (z:=0) (by decide) (by decide) (bFw.trans (equal_neg (by omega) (by decide)))
 have q3:qF 1 c4M (askE (bBg E (DM E)) 100 (1,c4M,[],[],[])) 9 0=some (true,0):=q_is (y:=0) (z:=0) (by decide) (by decide) (bFw.trans (bJh (by omega) rfl))
 have q4:qF 1 c4M (askE (bBg E (DM E)) 100 (1,c4M,[],[],[])) 10 0=some (false,0):=q_is (y:=2) (z:=0) (by decide) (by decide) (bFw.trans (bGu (by omega) (by omega) (by omega) (by decide) n1))
 have q5:qF 1 c4N (askE (bBg E (DM E)) 100 (1,c4N,[],[],[])) 4 0=some (true,0):=q_is (y:=0) (z:=0) (by decide) (by decide) (bFw.trans (bJh (by omega) rfl))
 have q6:qF 1 c4N (askE (bBg E (DM E)) 100 (1,c4N,[],[],[])) 9 0=some (true,0):=q_is (y:=0) (z:=0) (by decide) (by decide) (bFw.trans (bJh (by omega) rfl))
 have q7:qF 1 c4N (askE (bBg E (DM E)) 100 (1,c4N,[],[],[])) 10 7=some (false,0):=q_is (y:=2) (z:=6) (by decide) (by decide) (bFw.trans (bGu (by omega) (by omega) (by omega) (by decide) c4_never))
 have r1:=bGq h0 c0 (b:=100) (k:=5) (l:=[[0,4,7,9,10]]) (by decide) b1 (by simp[c4M]) (by decide) (S:=[[0,4,9]]) (L:=[[7,10]]) (by simp only[rndF,splF,List.foldl_cons,List.foldl_nil,stcF,stpF,q1,q2,q3,q4];simp)
 have r2:=bGq h0 c0 (b:=100) (k:=4) (l:=[[0,4,9],[7,10]]) (by decide) b2 (by simp[c4N]) (by decide) (S:=[[0,4,9],[7]]) (L:=[[10]]) (by simp only[rndF,splF,List.foldl_cons,List.foldl_nil,stcF,stpF,q5,q6,q7,List.cons_append,List.nil_append];simp)
 have r3:=bGq h0 c0 (b:=100) (k:=3) (l:=[[0,4,9],[7],[10]]) (by decide) b3 (by simp[c4N]) (by decide) (S:=[[0,4,9],[7],[10]]) (L:=[]) (by simp only[rndF,splF,List.foldl_cons,List.foldl_nil,stcF,stpF,q5,q6,List.cons_append,List.nil_append];simp)
 rw[find_eq h0 c0 (by omega),show iniF 1 c4L c4L.length=[0,4,7,9,10] by decide]
 exact congrArg endF (r1.trans ((if_neg (by simp)).trans (r2.trans ((if_neg (by simp)).trans (r3.trans (if_pos rfl))))))
theorem exF_find:bBn 0 [] [] [] [] 0=some ([[0]],(0,[],[],[],[]),0):=by
 have h0:bDd 0 [] [] [] []:=cCp (by decide) (by simp) (by simp) (by simp) (by simp)
 have c0:bA8 0 [] [] [] []=0:=by decide
 have b1:lB 0 [] [] [] [] [[0]]=(0,[],[],[],[]):=by kernel_rfl
 have r1:=bGq h0 c0 (b:=0) (k:=1) (l:=[[0]]) (by decide) b1 (by simp) (by decide) (S:=[[0]]) (L:=[]) (by simp only[rndF,splF,List.foldl_cons,List.foldl_nil,stcF,stpF];simp)
 rw[find_eq h0 c0 (by omega),show iniF 0 [] ([]:LP).length=[0] by decide]
 exact congrArg endF (r1.trans (if_pos rfl))
theorem bN3.loop{A:LP}{x:Int}(hn:A.length<=100000):∀(k i:Nat),i+k=A.length->bB4.l0 (i:Int) A x A x=some true
 |0,i,hi=>by rw[bB4.l0_eq,cd,if_neg (by omega)]
 |k+1,i,hi=>by
  have hlt:i<A.length:=by omega
  have hw:IntKind.wrap .i64 ((i:Int)+1)=((i+1:Nat):Int):=by rw[wr]<;>omega
  rw[bB4.l0_eq,cd,if_pos (by omega),bB0 hlt,Option.bind_some,Option.bind_some,bX6,cf,hw]
  exact bN3.loop hn k (i+1) (by omega)
theorem bN3{A:LP}{x:Int}(hn:A.length<=100000):bB4 A x A x=some true:=by
 rw[bB4.eq,cn,if_pos rfl,cn,if_pos rfl]
 exact bN3.loop hn A.length 0 (by omega)
theorem LatchcorrNames_pure:bDu=some true:=by
 have hbs:bDd (-1) [] [] [] []:=cCp (by decide) (by simp) (by simp) (by simp) (by simp)
 have hbc:bA8 (-1) [] [] [] []=8:=by decide
 have e1:=find_bad hbs (b:=-1) (by rw[hbc];decide)
 obtain⟨s2,e2⟩:=lpass_bad hbs (by rw[hbc];decide) (-1)
 rw[hbc]at e1 e2
 have hA:=bGe (f:=0) (s:=0) (n:=2) (a:=2) (by omega) (by omega) (by omega) (Bs:=[4,6]) (by simp) (by simp[in64]) (by omega)
 have cA:bA8 1 [(2,0),(2,0)] [] [4,6] []=0:=by decide
 have e4:=find_arg hA cA (b:=-1) (by omega)
 obtain⟨s6,e6⟩:=bZq hA cA (b:=100001) (by omega)
 have hB:=bGe (f:=0) (s:=1) (n:=3) (a:=2) (by omega) (by omega) (by omega) (Bs:=[4,6]) (by simp) (by simp[in64]) (by omega)
 have cB:bA8 1 [(2,0),(3,1)] [] [4,6] []=0:=by decide
 have e8:=bZp hB cB (by decide) (b:=100) (by omega) (cCa (l:=[[0],[4,7]]) (by decide)) bYb
 have f8:facP 1 ([(2,0),(3,1)]:LP).length [[0],[4,7]]=(10,[(5,3),(4,2),(9,7)]):=by decide
 have hE:=bYa (L:=c4L) (by decide) (by decide)
 have cE:bA8 1 c4L [] [] []=0:=by decide
 have e14:=bZp hE cE (by decide) (b:=100) (by omega) (cCa (l:=[[0,4,9],[7],[10]]) (by decide)) exE_find
 have f14:facP 1 c4L.length [[0,4,9],[7],[10]]=(10,[(6,3)]):=by decide
 rw[f8]at e8
 rw[f14]at e14
 rw[bDu.eq,bBk.eq,e1,Option.bind_some,Option.bind_some,e2,Option.bind_some,bBe.eq,Option.bind_some]
 dsimp only
 rw[bBk.eq,e4,Option.bind_some,Option.bind_some,Option.bind_some]
 dsimp only
 rw[e6,Option.bind_some,bBe.eq,Option.bind_some]
 dsimp only
 rw[e8,Option.bind_some,bBe.eq,Option.bind_some]
 dsimp only
 rw[bBk.eq,exC_find,Option.bind_some,Option.bind_some,bBe.eq,Option.bind_some]
 dsimp only
 rw[bBk.eq,exD_find,Option.bind_some,Option.bind_some,bBk.eq,show([(4,0),(7,1),(5,1),(2,0)]:LP)=c4L from rfl,exE_find,Option.bind_some,Option.bind_some,e14,Option.bind_some,bBk.eq,exF_find,Option.bind_some,Option.bind_some,bYe,Option.bind_some,ct]
 dsimp only
 rw[ce,if_pos rfl,ce,if_pos rfl,ce,if_pos rfl,ce,if_pos rfl,ce,if_pos rfl,bJn (by decide),Option.bind_some,ct]
 refine(congrArg (fun z=>Option.bind z _) (bN3 (A:=[(5,3),(4,2),(9,7)]) (x:=10) (by decide))).trans ?_
 rw[Option.bind_some,ct,ce,if_pos rfl,bJg (by decide) (by decide),Option.bind_some,ct,ce,if_pos rfl,bJg (by decide) (by decide),Option.bind_some,ct,ce,if_pos rfl,bJg (by decide) (by decide),Option.bind_some,ct,ce,if_pos rfl]
 refine(congrArg (fun z=>Option.bind z _) (bN3 (A:=[(6,3)]) (x:=10) (by decide))).trans ?_
 rw[Option.bind_some,ct,ce,if_pos rfl,bJg (by decide) (by decide),Option.bind_some]
end Go.Proofs.YtfjpfjnepdhnaaaGreat

