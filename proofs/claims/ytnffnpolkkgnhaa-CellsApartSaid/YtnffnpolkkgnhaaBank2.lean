/- All of a bank. -/
import Derived.Test.YtnffnpolkkgnhaaBankLen
import Derived.Test.YtnffnpolkkgnhaaBankAdd
import Derived.Test.YtnffnpolkkgnhaaBankCas
import Derived.Test.YtnffnpolkkgnhaaBankNew
import Derived.Test.YtnffnpolkkgnhaaBankAll
